/- Go's slices.Insert at segments of a host's log, walked. Go's slices. -/
import Derived.Test.YtdacanghbepjpaaGreatDoorG5
import Derived.Shelf.Spec.SlicesInsertGrow
import Derived.Test.YtdacanghbepjpaaGreatDoorM3
import Derived.Test.YtdacanghbepjpaaGreatDoorG4
import Derived.Test.YtdacanghbepjpaaGreatDoorM5
set_option linter.unusedSimpArgs false
set_option linter.unusedVariables false
set_option maxRecDepth 100000
namespace Go.Proofs.YtdacanghbepjpaaGreatDoor
open Go.RowKit Go.Lib
theorem run_copy_z {P:Program} (z:Nat) (w:World) (dT sT ty elem:TypeId) (b o dLen dCap:Nat) (a:Addr) (sLen sCap:Nat) (cs:List Value)
  (hu:P.underlying dT=some (.slice elem)) (hs:(P.info? elem).map (·.size)=some z) (hn:cs.length=Nat.min sLen dLen*z)
  (hsrc:∀ j v,cs[j]?=some v→w.cell? (a.add j)=some v) (hc:∀ j,j<cs.length→(w.cell? ⟨b,o+j,none⟩).isSome=true) (hf:∀ j,j<cs.length→w.frozen? ⟨b,o+j,none⟩=false) (h1:∀ v∈cs,v.oneCell'=true) :
  (Builtin.copy_ #[dT,sT] ty #[.slice (some ⟨b,o,none⟩) dLen dCap,.slice (some a) sLen sCap]).run P w=.ok (goInt (Nat.min sLen dLen)) (w.setCells b o cs):=by
 have hl:=run_loadCells_list (P:=P) w a cs hsrc
 have hst:=run_storeCells_cells (P:=P) b o cs 0 w (by simpa using hc) (by simpa using hf) h1
 cases hq:P.info? elem with
 | none => simp [hq] at hs
 | some i =>
  have hi:i.size=z:=by simpa [hq] using hs
  simp [Builtin.copy_,run_underlying hu,Builtin.lenOf,Builtin.firstCells,sizeOf,typeInfo,hq,hi,← hn,hl,hst]
def setAll (cur:Array Value):Nat→List Value→Array Value
 | _,[] => cur
 | o,u::us => setAll (cur.setIfInBounds o u) (o+1) us
theorem setAll_size:∀ (us:List Value) (cur:Array Value) (o:Nat),(setAll cur o us).size=cur.size
 | [],_,_ => rfl
 | u::us,cur,o => by rw [setAll,setAll_size us];simp
theorem setAll_get:∀ (us:List Value) (cur:Array Value) (o k:Nat),o+us.length≤cur.size→(setAll cur o us).toList[k]?=if k<o then cur.toList[k]? else if k<o+us.length then us[k-o]? else cur.toList[k]?
 | [],cur,o,k,_ => by
  simp only [setAll,List.length_nil,Nat.add_zero]
  split
  · rfl
  rfl
 | u::us,cur,o,k,h => by
  rw [List.length_cons] at h
  rw [setAll,setAll_get us _ (o+1) k (by simp;omega),Array.toList_setIfInBounds,List.getElem?_set,List.length_cons]
  have hlen:o<cur.toList.length:=by rw [Array.length_toList];omega
  by_cases h1:k<o
  · rw [if_pos (by omega:k<o+1),if_neg (by omega:¬ o=k),if_pos h1]
  by_cases h2:k=o
  · subst h2
    rw [if_pos (by omega:k<k+1),if_pos rfl,if_pos hlen,if_neg (by omega:¬ k<k),if_pos (by omega:k<k+(us.length+1)),Nat.sub_self]
    rfl
  rw [if_neg (by omega:¬ k<o+1),if_neg h1]
  by_cases h3:k<o+1+us.length
  · rw [if_pos h3,if_pos (by omega:k<o+(us.length+1)),show k-o=(k-(o+1))+1 by omega,List.getElem?_cons_succ]
  rw [if_neg h3,if_neg (by omega:¬ k<o+(us.length+1)),if_neg (by omega:¬ o=k)]
theorem Blk.setCells {b:Nat} {t:TypeId}:∀ (us:List Value) {w:World} {cur:Array Value} (o:Nat),Blk w b t cur→Blk (w.setCells b o us) b t (setAll cur o us)
 | [],_,_,_,h => h
 | u::us,w,cur,o,h => by
  rw [World.setCells,setAll]
  exact Blk.setCells us (o+1) (h.set o u)
theorem grown_setCells {b:Nat}:∀ (us:List Value) {a w:World} (o:Nat),a.grownBy w (some b)→a.grownBy (w.setCells b o us) (some b)
 | [],_,_,_,h => h
 | u::us,a,w,o,h => by
  rw [World.setCells]
  refine grown_setCells us (o+1) ⟨h.os,h.tape,h.output,by simp [World.setCell];exact h.size,fun k hk hne => (Below.heap_setCell _ _ _ _ (fun e => hne (by simp [e]))).trans (h.block k hk hne)⟩
section
variable {α:Type} {row:α→List Value} {z:Nat}
theorem rows_take (hz:∀ a,(row a).length=z):∀ (l:List α) (k:Nat),(l.take k).flatMap row=(l.flatMap row).take (k*z)
 | [],k => by simp
 | a::l,0 => by simp
 | a::l,k+1 => by
  rw [List.take_succ_cons,List.flatMap_cons,List.flatMap_cons,rows_take hz l k,List.take_append,hz,Nat.succ_mul,Nat.add_sub_cancel,List.take_of_length_le (l:=row a) (by rw [hz];omega)]
theorem rows_drop (hz:∀ a,(row a).length=z):∀ (l:List α) (k:Nat),(l.drop k).flatMap row=(l.flatMap row).drop (k*z)
 | [],k => by simp
 | a::l,0 => by simp
 | a::l,k+1 => by
  rw [List.drop_succ_cons,List.flatMap_cons,rows_drop hz l k,List.drop_append,hz,Nat.succ_mul,Nat.add_sub_cancel,show (row a).drop (k*z+z)=[] from List.drop_of_length_le (by rw [hz];omega),List.nil_append]
end
theorem own_shift {α:Type} {row:α→List Value} {z:Nat} {e:TypeId} {w:World} {B g c i:Nat} {cur:Array Value} {l:List α} (x:α) (hz:∀ a,(row a).length=z) (hg:B≤g) (hb:Blk w g e cur) (hroom:l.length+1≤c) (hm:c≤maxLen) (hs:cur.size=c*z) (ht:cur.toList.take (l.length*z)=l.flatMap row) (hi:i<l.length) :
  OwnRow row z e ((w.drew.setCells g ((i+1)*z) ((l.drop i).flatMap row)).setCells g (i*z) (row x)) B (.slice (some ⟨g,0,none⟩) (l.length+1) c) (l.take i++x::l.drop i):=by
 have hlen:(l.take i++x::l.drop i).length=l.length+1:=by simp;omega
 have hdl:((l.drop i).flatMap row).length=(l.length-i)*z:=by rw [rows_length hz,List.length_drop]
 have hcz:(l.length+1)*z≤c*z:=Nat.mul_le_mul_right z hroom
 have hiz:(i+1)*z+(l.length-i)*z=(l.length+1)*z:=by rw [← Nat.add_mul];congr 1;omega
 have hil:(i+1)*z≤(l.length+1)*z:=Nat.mul_le_mul_right z (by omega)
 have hi1:(i+1)*z=i*z+z:=Nat.succ_mul i z
 have hn1:(l.length+1)*z=l.length*z+z:=Nat.succ_mul l.length z
 have hin:(i+1)*z≤l.length*z:=Nat.mul_le_mul_right z (by omega)
 have hb2:Blk w.drew g e cur:=hb
 have hb3:=Blk.setCells (row x) (i*z) (Blk.setCells ((l.drop i).flatMap row) ((i+1)*z) hb2)
 refine ⟨by rw [rows_length hz],.inr ⟨g,c,_,by rw [hlen],hg,hb3,by omega,hm,by rw [setAll_size,setAll_size];exact hs,?_⟩⟩
 rw [hlen]
 apply List.ext_getElem?
 intro k
 rw [List.getElem?_take]
 have hcur:∀ j,j<l.length*z→cur.toList[j]?=(l.flatMap row)[j]?:=fun j hj => by rw [← ht,List.getElem?_take,if_pos hj]
 have e:(l.take i++x::l.drop i).flatMap row=(l.flatMap row).take (i*z)++(row x++(l.flatMap row).drop (i*z)):=by
  rw [List.flatMap_append,List.flatMap_cons,rows_take hz,rows_drop hz]
 have hfl:(l.flatMap row).length=l.length*z:=rows_length hz l
 have htl:((l.flatMap row).take (i*z)).length=i*z:=by rw [List.length_take];omega
 by_cases hk:k<(l.length+1)*z
 · rw [if_pos hk,setAll_get _ _ _ _ (by rw [hz,setAll_size];omega),hz,setAll_get _ _ _ _ (by rw [hdl];omega),hdl,e]
   by_cases h1:k<i*z
   · rw [if_pos h1,if_pos (by omega),hcur k (by omega),List.getElem?_append_left (by omega),List.getElem?_take,if_pos h1]
   rw [if_neg h1,List.getElem?_append_right (by omega),htl]
   by_cases h2:k<i*z+z
   · rw [if_pos h2,List.getElem?_append_left (by rw [hz];omega)]
   rw [if_neg h2,if_neg (by omega),if_pos (by omega),List.getElem?_append_right (by rw [hz];omega),hz,rows_drop hz,List.getElem?_drop,List.getElem?_drop]
   congr 1
   omega
 rw [if_neg hk]
 symm
 apply List.getElem?_eq_none
 rw [rows_length hz,hlen]
 omega
end Go.Proofs.YtdacanghbepjpaaGreatDoor
namespace Go.Proofs.YtdacanghbepjpaaGreatDoor
open Go.RowKit Go.Lib
theorem segs_one {vs:List SegV} (h:∀ a∈vs,∀ y∈segRow a,y.oneCell'=true):∀ u∈vs.flatMap segRow,u.oneCell'=true:=fun u hu => by
 obtain ⟨a,ha,hu⟩:=List.mem_flatMap.1 hu
 exact h a ha u hu
def InsPost (B:Nat) (v:Value) (vs:List SegV) (x:SegV) (i:Nat) (w:World) (e:Ending) (w':World):Prop :=
 ∃ u,e=.returned u∧OwnRow segRow 3 132 w' B u (vs.take i++x::vs.drop i)∧w.grownBy w' v.ownBlock∧(u.ownBlock=v.ownBlock∨u.ownBlock=some w.heap.size)
section
variable {w:World} {B vb n:Nat} {v:Value} {vs:List SegV} {x:SegV}
set_option maxHeartbeats 4000000 in
theorem insSeg_end (h:OwnRow segRow 3 132 w B v vs) (hn:vs.length=n) (hn9:n≤1000000) (hx1:∀ y∈segRow x,y.oneCell'=true) (hvb:Blk w vb 132 (segRow x).toArray) (hB:B≤w.heap.size) :
  Calls Tryz.prog 165 #[v,.int .i64 n,.slice (some ⟨vb,0,none⟩) 1 1] w (InsPost B v vs x n w):=by
 obtain ⟨v',w',e1,e2,e3,e4⟩:=run_append_rows (ty:=134) segRow_len (by omega) under_segs Tryz.info_seg (by rfl) (by omega) h (.slice (some ⟨vb,0,none⟩) 1 1) [x] (RdRow.one hvb rfl) (fun a ha => (show a=x by simpa using ha) ▸ hx1) (by simp;omega) (by simp;omega) hB
 have HP:=Zh (show InsPost B v vs x n w (.returned v') w' from ⟨v',rfl,by rw [List.take_of_length_le (by omega),List.drop_of_length_le (by omega)];exact e2,e3,e4⟩)
 have Hrun:=Zh e1
 have hz:¬ ((1:Int)=0):=by omega
 rcases h.2 with ⟨rfl,h0⟩ | ⟨g,c,cur,rfl,_,_,hnc,hcm,_⟩
 · obtain rfl:n=0:=by omega
   clear h hvb hx1 e1 e2 e3 e4
   go_enter Tryz.func165,Tryz.ntmps165
   go_wp2_with (at_builtin;refine Lib.wpList_append_run _ rfl _ _ _ _ rfl _ _ rfl rfl _ _ Hrun.out ?_)
   go_ret
   exact HP.out
 rw [hn] at Hrun HP hnc ⊢
 unfold maxLen at hcm
 clear h hvb hx1 e1 e2 e3 e4
 go_enter Tryz.func165,Tryz.ntmps165
 go_wp2_with (at_builtin;refine Lib.wpList_append_run _ rfl _ _ _ _ rfl _ _ rfl rfl _ _ Hrun.out ?_)
 all_goals
  go_ret
  exact HP.out
set_option maxHeartbeats 4000000 in
theorem insSeg_shift {i g c:Nat} {cur:Array Value} (hn:vs.length=n) (hi:i<n) (hn9:n≤1000000) (h1:∀ a∈vs,∀ y∈segRow a,y.oneCell'=true) (hx1:∀ y∈segRow x,y.oneCell'=true) (hvb:Blk w vb 132 (segRow x).toArray) (hne:vb≠g)
  (hg:B≤g) (hb:Blk w g 132 cur) (hroom:n+1≤c) (hm:c≤maxLen) (hs:cur.size=c*3) (ht:cur.toList.take (n*3)=vs.flatMap segRow) :
  Calls Tryz.prog 165 #[.slice (some ⟨g,0,none⟩) n c,.int .i64 i,.slice (some ⟨vb,0,none⟩) 1 1] w (InsPost B (.slice (some ⟨g,0,none⟩) n c) vs x i w):=by
 have hpost:InsPost B (.slice (some ⟨g,0,none⟩) n c) vs x i w (.returned (.slice (some ⟨g,0,none⟩) (n+1) c)) ((w.drew.setCells g ((i+1)*3) ((vs.drop i).flatMap segRow)).setCells g (i*3) (segRow x)):=by
  refine ⟨_,rfl,?_,grown_setCells _ _ (grown_setCells _ _ ⟨rfl,rfl,rfl,Nat.le_refl _,fun _ _ _ => rfl⟩),.inl rfl⟩
  have:=own_shift (B:=B) (i:=i) (l:=vs) x segRow_len hg hb (by omega) hm hs (by rw [hn];exact ht) (by omega)
  rw [hn] at this
  exact this
 have HP:=Zh hpost
 have hdl:((vs.drop i).flatMap segRow).length=(n-i)*3:=by rw [rows_length segRow_len,List.length_drop,hn]
 have hcell:∀ j v,(vs.flatMap segRow)[j]?=some v→w.cell? ⟨g,j,none⟩=some v:=fun j v hj => by
  rw [hb.cell,← Array.getElem?_toList]
  have hjl:j<n*3:=by have:=(List.getElem?_eq_some_iff.1 hj).1;rw [rows_length segRow_len,hn] at this;exact this
  rw [← ht,List.getElem?_take,if_pos hjl] at hj
  exact hj
 have hsome:∀ j,j<(n+1)*3→(w.cell? ⟨g,j,none⟩).isSome=true:=fun j hj => by
  have hcz:(n+1)*3≤c*3:=Nat.mul_le_mul_right 3 hroom
  rw [hb.cell,Array.getElem?_eq_getElem (by omega)]
  rfl
 have hsz:(Tryz.prog.info? 132).map (·.size)=some 3:=by
  obtain ⟨i0,hi0,h0,h1,h2⟩:=info_parts Tryz.info_seg
  rw [hi0];simp [h1]
 have hov:∀ lb cb,(callFunc 189 #[.slice (some ⟨vb,0,none⟩) 1 1,.slice (some ⟨g,(i+1)*3,none⟩) lb cb]).run Tryz.prog w=.ok (.value (.bool false)) w:=fun lb cb => by
  rw [run_callFunc_extern Tryz.func189 (by kernel_rfl) (by kernel_rfl) (by kernel_rfl) (e:=Extern.SlicesOverlaps.overlaps #[134,134] #[4]) (by kernel_rfl),
   Lib.run_overlaps_apart w 134 4 132 under_segs 3 (fun W => by obtain ⟨i0,hi0,h0,h1,h2⟩:=info_parts Tryz.info_seg;simp [Go.sizeOf,typeInfo,hi0,h1]) ⟨vb,0,none⟩ ⟨g,(i+1)*3,none⟩ 1 1 lb cb hne 132 132 3 (c*3) (by unfold World.shape?;rw [show w.heap[vb]?=_ from hvb];rfl) (by unfold World.shape?;rw [show w.heap[g]?=_ from hb];simp [hs]) (by omega) (hvb.free 0) (hvb.free 3)]
  rfl
 have hcp1:∀ ty dc sc,(Builtin.copy_ #[134,134] ty #[.slice (some ⟨g,(i+1)*3,none⟩) (n+1-(i+1)) dc,.slice (some ⟨g,i*3,none⟩) (n+1-i) sc]).run Tryz.prog w.drew=.ok (goInt ((n-i:Nat):Int)) (w.drew.setCells g ((i+1)*3) ((vs.drop i).flatMap segRow)):=fun ty dc sc => by
  have hmin:Nat.min (n+1-i) (n+1-(i+1))=n-i:=by rw [show Nat.min (n+1-i) (n+1-(i+1))=n+1-(i+1) from Nat.min_eq_right (by omega)];omega
  have:=run_copy_z (P:=Tryz.prog) 3 w.drew 134 134 ty 132 g ((i+1)*3) (n+1-(i+1)) dc ⟨g,i*3,none⟩ (n+1-i) sc ((vs.drop i).flatMap segRow) under_segs hsz (by rw [hdl,hmin])
   (fun j v hj => by
    rw [add_none]
    rw [rows_drop segRow_len,List.getElem?_drop] at hj
    exact hcell _ v hj) (fun j hj => hsome _ (by omega)) (fun j hj => hb.free _) (segs_one fun a ha => h1 a (List.mem_of_mem_drop ha))
  rw [hmin] at this
  exact this
 obtain ⟨W1,hW1⟩:∃ W1,W1=w.drew.setCells g ((i+1)*3) ((vs.drop i).flatMap segRow):=⟨_,rfl⟩
 have hb1:=Blk.setCells ((vs.drop i).flatMap segRow) ((i+1)*3) (show Blk w.drew g _ cur from hb)
 rw [← hW1] at hb1 hcp1 HP
 have hv1:Blk W1 vb 132 (segRow x).toArray:=by
  have hgr:w.grownBy W1 (some g):=by rw [hW1];exact grown_setCells _ _ ⟨rfl,rfl,rfl,Nat.le_refl _,fun _ _ _ => rfl⟩
  unfold Blk
  rw [hgr.block vb hvb.lt (fun e => hne (by injection e))]
  exact hvb
 have hcp2:∀ (W:World),(∀ x,W.cell? x=W1.cell? x)→(∀ x,W.frozen? x=W1.frozen? x)→∀ ty dc,(Builtin.copy_ #[134,134] ty #[.slice (some ⟨g,i*3,none⟩) (n+1-i) dc,.slice (some ⟨vb,0,none⟩) 1 1]).run Tryz.prog W=.ok (goInt 1) (W.setCells g (i*3) (segRow x)):=fun W hWc hWf ty dc => by
  have hmin:Nat.min 1 (n+1-i)=1:=Nat.min_eq_left (by omega)
  have hcz:(n+1)*3≤c*3:=Nat.mul_le_mul_right 3 hroom
  have:=run_copy_z (P:=Tryz.prog) 3 W 134 134 ty 132 g (i*3) (n+1-i) dc ⟨vb,0,none⟩ 1 1 (segRow x) under_segs hsz (by rw [hmin];rfl)
   (fun j v hj => by
    rw [add_none,hWc,Nat.zero_add,hv1.cell,← Array.getElem?_toList]
    exact hj) (fun j hj => by
    rw [hWc,hb1.cell,Array.getElem?_eq_getElem (by rw [setAll_size,hs];rw [segRow_len] at hj;omega)]
    rfl) (fun j hj => by rw [hWf];exact hb1.free _) hx1
  rw [hmin] at this
  exact this
 have H1:=Zh hcp1
 have H2:=Zh hcp2
 have HOV:=Zh hov
 have mixed:Tryz.prog.follows .mixedOrders=true:=by kernel_rfl
 have hz1:¬ ((1:Int)=0):=by omega
 have hz2:¬ ((i:Int)=(n:Int)):=by omega
 have hw1:IntKind.i64.wrap ((i:Int)+1)=(i:Int)+1:=by rw [IntKind.wrap_i64];omega
 have hbd1:(0:Int)≤(i:Int)+1:=by omega
 have hin:i≤n:=by omega
 have htn:((i:Int)+1).toNat=i+1:=by omega
 have hb2:¬ (c=i+1):=by omega
 have hb3:(i:Int)≤(n:Int)+1:=by omega
 have hb4:¬ (c=i):=by omega
 have hc63:c≤9223372036854775807:=by unfold maxLen at hm;omega
 have hni:¬ (n=i):=by omega
 clear hpost hdl hcell hsome hsz hov hcp1 hcp2 hb1 hv1 hW1 h1 hx1 hvb hb hs ht hm hn
 go_enter Tryz.func165,Tryz.ntmps165
 go_wp2_with (simp only [HOV.out])
 go_region_law_o (refine Go.Proofs.step_copy_runI rfl _ _ 134 134 rfl (.slice (some ⟨g,(i+1)*3,none⟩) (n+1-(i+1)) (c-(i+1))) (.slice (some ⟨g,i*3,none⟩) (n+1-i) (c-i)) (by simp [Act.eval,Act.put]) (by simp [Act.eval,Act.put]) (H1.out 3 (c-(i+1)) (c-i)) ?_)
 have H3:=Zh (H2.out W1 (fun _ => rfl) (fun _ => rfl))
 go_wp2_with (simp only [H3.out])
 go_ret
 exact HP.out
set_option maxHeartbeats 4000000 in
theorem insSeg_grow {i g c:Nat} {cur:Array Value} (hn:vs.length=n) (hi:i<n) (hn9:n≤1000000) (h1:∀ a∈vs,∀ y∈segRow a,y.oneCell'=true) (hx1:∀ y∈segRow x,y.oneCell'=true) (hvb:Blk w vb 132 (segRow x).toArray)
  (hB:B≤w.heap.size) (hb:Blk w g 132 cur) (hnc:n≤c) (hroom:c<n+1) (hs:cur.size=c*3) (ht:cur.toList.take (n*3)=vs.flatMap segRow) :
  Calls Tryz.prog 165 #[.slice (some ⟨g,0,none⟩) n c,.int .i64 i,.slice (some ⟨vb,0,none⟩) 1 1] w (InsPost B (.slice (some ⟨g,0,none⟩) n c) vs x i w):=by
 obtain rfl:c=n:=by omega
 obtain ⟨i0,hi0,hz0,hz1,hz2⟩:=info_parts Tryz.info_seg
 have hcell:∀ j v,(vs.flatMap segRow)[j]?=some v→w.cell? ⟨g,j,none⟩=some v:=fun j v hj => by
  rw [hb.cell,← Array.getElem?_toList]
  have hjl:j<c*3:=by have:=(List.getElem?_eq_some_iff.1 hj).1;rw [rows_length segRow_len,hn] at this;exact this
  rw [← ht,List.getElem?_take,if_pos hjl] at hj
  exact hj
 have hfl:(vs.flatMap segRow).length=c*3:=by rw [rows_length segRow_len,hn]
 have hdl:((vs.drop i).flatMap segRow).length=(c-i)*3:=by rw [rows_length segRow_len,List.length_drop,hn]
 have hti:((vs.take i).flatMap segRow).length=i*3:=by rw [rows_length segRow_len,List.length_take,hn];congr 1;omega
 have hrz:∀ ty,(Builtin.append_ #[134,3] ty #[.slice (some ⟨g,0,none⟩) i c,.int .i64 ((c:Int)+1-(i:Int))]).run Tryz.prog w =
   .ok (.slice (some ⟨w.heap.size,0,none⟩) (c+1) (grownCap w (c+1) c 132)) (w.drew.alloc (.cells (((vs.take i).flatMap segRow).toArray++Builtin.zeroCells (Value.agg #[.int .i64 0,.slice none 0 0,.slice none 0 0]).cells (c+1-i)++Builtin.zeroCells (Value.agg #[.int .i64 0,.slice none 0 0,.slice none 0 0]).cells (grownCap w (c+1) c 132-(c+1))) 132)):=fun ty => by
  have hold:(Builtin.firstCells i0.size i (.slice (some ⟨g,0,none⟩) i c)).run Tryz.prog w.drew=.ok ((vs.take i).flatMap segRow).toArray w.drew:=by
   rw [hz1]
   exact run_firstCells_some w.drew 3 i ⟨g,0,none⟩ i c ((vs.take i).flatMap segRow) (by rw [hti]) (fun j v hj => by
    rw [add_none,Nat.zero_add]
    rw [rows_take segRow_len,List.getElem?_take] at hj
    split at hj
    · exact hcell j v hj
    cases hj)
  have h:=Lib.run_append_grow_zeros w 134 3 ty 132 i0 _ .i64 .i64 under_segs (by kernel_rfl) hi0 hz0 (some ⟨g,0,none⟩) i c ((vs.take i).flatMap segRow) hold (c+1-i) (by omega) (by omega) (by omega) (by omega) (by rw [hz2];omega) (by rw [hz2,show i+(c+1-i)=c+1 by omega];exact growslice_fits (by omega) (by omega))
  rw [show i+(c+1-i)=c+1 by omega] at h
  rw [show (c:Int)+1-(i:Int)=((c+1-i:Nat):Int) by omega]
  exact h
 have hge:=grownCap_ge w (c+1) c 132
 have hle:=grownCap_le_maxLen w (c+1) c 132 (by unfold maxLen;omega)
 obtain ⟨G,hG⟩:∃ G,G=grownCap w (c+1) c 132:=⟨_,rfl⟩
 rw [← hG] at hrz hge hle
 obtain ⟨Z,hZ⟩:∃ Z:Array Value,Z=Builtin.zeroCells (Value.agg #[.int .i64 0,.slice none 0 0,.slice none 0 0]).cells (c+1-i)++Builtin.zeroCells (Value.agg #[.int .i64 0,.slice none 0 0,.slice none 0 0]).cells (G-(c+1)):=⟨_,rfl⟩
 have hZl:Z.size=(G-i)*3:=by
  rw [hZ,Array.size_append]
  simp only [Builtin.zeroCells,Array.size_map,Array.size_range]
  show (c+1-i)*3+(G-(c+1))*3=_
  omega
 obtain ⟨W1,hW1⟩:∃ W1,W1=w.drew.alloc (.cells (((vs.take i).flatMap segRow).toArray++Z) 132):=⟨_,rfl⟩
 have hrz2:∀ ty,(Builtin.append_ #[134,3] ty #[.slice (some ⟨g,0,none⟩) i c,.int .i64 ((c:Int)+1-(i:Int))]).run Tryz.prog w=.ok (.slice (some ⟨w.heap.size,0,none⟩) (c+1) G) W1:=fun ty => by
  rw [hrz ty,hW1,hZ,Array.append_assoc]
 have hg1:w.grownBy W1 none:=by rw [hW1];exact ⟨rfl,rfl,rfl,by simp [World.alloc],fun k hk _ => by rw [Below.heap_alloc _ _ _ (by exact hk)];rfl⟩
 have hb1:Blk W1 w.heap.size 132 (((vs.take i).flatMap segRow).toArray++Z):=by rw [hW1];exact Blk.alloc_new w.drew 132 _
 have hgl:=hb.lt
 have hvl:=hvb.lt
 have hv1:Blk W1 vb 132 (segRow x).toArray:=by
  unfold Blk
  rw [hg1.block vb hvl (fun e => by cases e)]
  exact hvb
 obtain ⟨N0,hN0⟩:∃ N0,N0=w.heap.size:=⟨_,rfl⟩
 have hsz:(Tryz.prog.info? 132).map (·.size)=some 3:=by rw [hi0];exact congrArg some hz1
 have hsz1:(((vs.take i).flatMap segRow).toArray++Z).size=G*3:=by
  rw [Array.size_append,List.size_toArray,hti,hZl]
  omega
 have hcA:∀ ty dc,(Builtin.copy_ #[134,134] ty #[.slice (some ⟨w.heap.size,i*3,none⟩) (c+1-i) dc,.slice (some ⟨vb,0,none⟩) 1 1]).run Tryz.prog W1=.ok (goInt 1) (W1.setCells w.heap.size (i*3) (segRow x)):=fun ty dc => by
  have hmin:Nat.min 1 (c+1-i)=1:=Nat.min_eq_left (by omega)
  have:=run_copy_z (P:=Tryz.prog) 3 W1 134 134 ty 132 w.heap.size (i*3) (c+1-i) dc ⟨vb,0,none⟩ 1 1 (segRow x) under_segs hsz (by rw [hmin];rfl)
   (fun j v hj => by
    rw [add_none,Nat.zero_add,hv1.cell,← Array.getElem?_toList]
    exact hj) (fun j hj => by
    rw [hb1.cell,Array.getElem?_eq_getElem (by rw [hsz1];rw [segRow_len] at hj;omega)]
    rfl) (fun j hj => hb1.free _) hx1
  rw [hmin] at this
  exact this
 obtain ⟨W2,hW2⟩:∃ W2,W2=W1.setCells w.heap.size (i*3) (segRow x):=⟨_,rfl⟩
 have hb2:=Blk.setCells (segRow x) (i*3) hb1
 rw [← hW2] at hcA hb2
 have hg2:∀ k,k<w.heap.size→W2.heap[k]?=w.heap[k]?:=fun k hk => by
  rw [hW2]
  have hgr:=grown_setCells (b:=w.heap.size) (segRow x) (i*3) (show W1.grownBy W1 (some w.heap.size) from ⟨rfl,rfl,rfl,Nat.le_refl _,fun _ _ _ => rfl⟩)
  rw [hgr.block k (Nat.lt_of_lt_of_le hk hg1.size) (fun e => by injection e with e;omega)]
  exact hg1.block k hk (fun e => by cases e)
 have hmin2:Nat.min (c-i) (c+1-(i+1))=c-i:=by rw [show c+1-(i+1)=c-i by omega];exact Nat.min_self _
 have hcB:∀ ty dc sc,(Builtin.copy_ #[134,134] ty #[.slice (some ⟨w.heap.size,(i+1)*3,none⟩) (c+1-(i+1)) dc,.slice (some ⟨g,i*3,none⟩) (c-i) sc]).run Tryz.prog W2.drew=.ok (goInt ((c-i:Nat):Int)) (W2.drew.setCells w.heap.size ((i+1)*3) ((vs.drop i).flatMap segRow)):=fun ty dc sc => by
  have:=run_copy_z (P:=Tryz.prog) 3 W2.drew 134 134 ty 132 w.heap.size ((i+1)*3) (c+1-(i+1)) dc ⟨g,i*3,none⟩ (c-i) sc ((vs.drop i).flatMap segRow) under_segs hsz (by rw [hdl,hmin2])
   (fun j v hj => by
    rw [add_none]
    rw [rows_drop segRow_len,List.getElem?_drop] at hj
    show W2.cell? _=_
    rw [World.cell?_of_block (hg2 g hgl)]
    exact hcell _ v hj) (fun j hj => by
    show (W2.cell? _).isSome=true
    rw [hb2.cell,Array.getElem?_eq_getElem (by rw [setAll_size,hsz1];omega)]
    rfl) (fun j hj => hb2.free _) (segs_one fun a ha => h1 a (List.mem_of_mem_drop ha))
  rw [hmin2] at this
  exact this
 obtain ⟨W3,hW3⟩:∃ W3,W3=W2.drew.setCells w.heap.size ((i+1)*3) ((vs.drop i).flatMap segRow):=⟨_,rfl⟩
 have hb3:=Blk.setCells ((vs.drop i).flatMap segRow) ((i+1)*3) (show Blk W2.drew w.heap.size _ _ from hb2)
 rw [← hW3] at hcB hb3
 have hlen:(vs.take i++x::vs.drop i).length=c+1:=by simp;omega
 have hpost:InsPost B (.slice (some ⟨g,0,none⟩) c c) vs x i w (.returned (.slice (some ⟨w.heap.size,0,none⟩) (c+1) G)) W3:=by
  refine ⟨_,rfl,⟨by rw [rows_length segRow_len],.inr ⟨w.heap.size,G,_,by rw [hlen],hB,hb3,by omega,hle,by rw [setAll_size,setAll_size];exact hsz1,?_⟩⟩,?_,.inr rfl⟩
  · rw [hlen]
    apply List.ext_getElem?
    intro k
    rw [List.getElem?_take]
    have e:(vs.take i++x::vs.drop i).flatMap segRow=(vs.flatMap segRow).take (i*3)++(segRow x++(vs.flatMap segRow).drop (i*3)):=by
     rw [List.flatMap_append,List.flatMap_cons,rows_take segRow_len,rows_drop segRow_len]
    have htl:((vs.flatMap segRow).take (i*3)).length=i*3:=by rw [List.length_take,hfl];omega
    by_cases hk:k<(c+1)*3
    · rw [if_pos hk,setAll_get _ _ _ _ (by rw [hdl,setAll_size,hsz1];omega),hdl,setAll_get _ _ _ _ (by rw [segRow_len,hsz1];omega),segRow_len,e]
      by_cases h1:k<i*3
      · rw [if_pos (by omega),if_pos h1,List.getElem?_append_left (by omega),Array.toList_append,List.toList_toArray,List.getElem?_append_left (by rw [hti];omega),rows_take segRow_len]
      rw [List.getElem?_append_right (by omega),htl]
      by_cases h2:k<i*3+3
      · rw [if_pos (by omega),if_neg h1,if_pos h2,List.getElem?_append_left (by rw [segRow_len];omega)]
      rw [if_neg (by omega),if_pos (by omega),List.getElem?_append_right (by rw [segRow_len];omega),segRow_len,rows_drop segRow_len,List.getElem?_drop,List.getElem?_drop]
      congr 1
      omega
    rw [if_neg hk]
    symm
    apply List.getElem?_eq_none
    rw [rows_length segRow_len,hlen]
    omega
  have hgr3:=grown_setCells (b:=w.heap.size) ((vs.drop i).flatMap segRow) ((i+1)*3) (show W2.drew.grownBy W2.drew (some w.heap.size) from ⟨rfl,rfl,rfl,Nat.le_refl _,fun _ _ _ => rfl⟩)
  rw [← hW3] at hgr3
  have hgr2:=grown_setCells (b:=w.heap.size) (segRow x) (i*3) (show W1.grownBy W1 (some w.heap.size) from ⟨rfl,rfl,rfl,Nat.le_refl _,fun _ _ _ => rfl⟩)
  rw [← hW2] at hgr2
  refine ⟨hgr3.os.trans (hgr2.os.trans hg1.os),hgr3.tape.trans (hgr2.tape.trans hg1.tape),hgr3.output.trans (hgr2.output.trans hg1.output),Nat.le_trans hg1.size (Nat.le_trans hgr2.size hgr3.size),fun k hk _ => ?_⟩
  rw [hgr3.block k (Nat.lt_of_lt_of_le hk (Nat.le_trans hg1.size hgr2.size)) (fun e => by injection e with e;omega)]
  exact hg2 k hk
 have mixed:Tryz.prog.follows .mixedOrders=true:=by kernel_rfl
 have HP:=Zh hpost
 have Hrz:=Zh hrz2
 have HA:=Zh hcA
 have HBB:=Zh hcB
 have hGi:¬ (G=i):=by omega
 have hGi1:¬ (G=i+1):=by omega
 have hni:¬ (c=i):=by omega
 have hnI:¬ ((i:Int)=(c:Int)):=by omega
 have hw1:IntKind.i64.wrap ((i:Int)+1)=(i:Int)+1:=by rw [IntKind.wrap_i64];omega
 have hbd1:(0:Int)≤(i:Int)+1:=by omega
 have htn:((i:Int)+1).toNat=i+1:=by omega
 have hbb3:(i:Int)≤(c:Int):=by omega
 have hg63:G≤9223372036854775807:=by unfold maxLen at hle;omega
 clear hpost hcell hfl hdl hti hrz hge hle hG hZ hZl hW1 hrz2 hg1 hb1 hgl hvl hv1 hN0 hsz hsz1 hcA hW2 hb2 hg2 hmin2 hcB hW3 hb3 hlen hb hs ht hvb hi0 hz0 hz1 hz2 h1 hx1 hn hroom hnc
 go_enter Tryz.func165,Tryz.ntmps165
 go_wp2_with (first
  | (at_builtin;refine Lib.wpList_append_run _ rfl _ _ _ _ rfl _ _ rfl rfl _ _ (Hrz.out _) ?_)
  | (simp only [HA.out]))
 go_region_law_o (refine Go.Proofs.step_copy_runI rfl _ _ 134 134 rfl (.slice (some ⟨w.heap.size,(i+1)*3,none⟩) (c+1-(i+1)) (G-(i+1))) (.slice (some ⟨g,i*3,none⟩) (c-i) (c-i)) (by simp [Act.eval,Act.put]) (by simp [Act.eval,Act.put]) (HBB.out 3 (G-(i+1)) (c-i)) ?_)
 go_wp2
 go_ret
 exact HP.out
theorem insSeg_any {i:Nat} (h:OwnRow segRow 3 132 w B v vs) (hn:vs.length=n) (hi:i≤n) (hn9:n≤1000000) (h1:∀ a∈vs,∀ y∈segRow a,y.oneCell'=true) (hx1:∀ y∈segRow x,y.oneCell'=true) (hvb:Blk w vb 132 (segRow x).toArray) (hne:v.ownBlock≠some vb) (hB:B≤w.heap.size) :
  Calls Tryz.prog 165 #[v,.int .i64 i,.slice (some ⟨vb,0,none⟩) 1 1] w (InsPost B v vs x i w):=by
 by_cases hin:i=n
 · subst hin
   exact insSeg_end h hn hn9 hx1 hvb hB
 rcases h.2 with ⟨rfl,h0⟩ | ⟨g,c,cur,rfl,hg,hh,hnc,hcm,hs,ht⟩
 · omega
 rw [hn] at hnc ht ⊢
 by_cases hroom:n+1≤c
 · exact insSeg_shift hn (by omega) hn9 h1 hx1 hvb (fun e => hne (by rw [e];rfl)) hg hh hroom hcm hs ht
 exact insSeg_grow hn (by omega) hn9 h1 hx1 hvb hB hh hnc (by omega) hs ht
end
end Go.Proofs.YtdacanghbepjpaaGreatDoor
namespace Go.Proofs.YtdacanghbepjpaaGreatDoor
open Go.RowKit Go.Lib
def strRow (s:ByteArray):List Value:=[.string s]
theorem strRow_len:∀ x,(strRow x).length=1:=fun _ => rfl
theorem strRow_one:∀ x,∀ u∈strRow x,u.oneCell'=true:=fun x u hu => by
 simp [strRow] at hu
 rw [hu];rfl
theorem flat_strRow (l:List ByteArray):l.flatMap strRow=l.map Value.string:=by
 induction l with
 | nil => rfl
 | cons a l ih => rw [List.flatMap_cons,ih];rfl
theorem info_strE:(Tryz.prog.info? 9).map (fun i => (i.zero,i.size,i.bytes))=some (some (.string ⟨#[]⟩),1,16):=by kernel_rfl
theorem under_strs:Tryz.prog.underlying 202=some (.slice 9):=by kernel_rfl
theorem rows_lengthS (l:List ByteArray):(l.flatMap strRow).length=l.length:=by rw [rows_length strRow_len,Nat.mul_one]
theorem rows_takeS (l:List ByteArray) (k:Nat):(l.take k).flatMap strRow=(l.flatMap strRow).take k:=by rw [rows_take strRow_len,Nat.mul_one]
theorem rows_dropS (l:List ByteArray) (k:Nat):(l.drop k).flatMap strRow=(l.flatMap strRow).drop k:=by rw [rows_drop strRow_len,Nat.mul_one]
theorem own_shiftS {w:World} {B g c i:Nat} {cur:Array Value} {l:List ByteArray} (x:ByteArray) (hg:B≤g) (hb:Blk w g 9 cur) (hroom:l.length+1≤c) (hm:c≤maxLen) (hs:cur.size=c) (ht:cur.toList.take l.length=l.flatMap strRow) (hi:i<l.length) :
  OwnRow strRow 1 9 ((w.drew.setCells g (i+1) ((l.drop i).flatMap strRow)).setCells g i (strRow x)) B (.slice (some ⟨g,0,none⟩) (l.length+1) c) (l.take i++x::l.drop i):=by
 have h:=own_shift (i:=i) x strRow_len hg hb hroom hm (by rw [hs,Nat.mul_one]) (by rw [Nat.mul_one];exact ht) hi
 rw [Nat.mul_one,Nat.mul_one] at h
 exact h
theorem strs_one {vs:List ByteArray} (h:∀ a∈vs,∀ y∈strRow a,y.oneCell'=true):∀ u∈vs.flatMap strRow,u.oneCell'=true:=fun u hu => by
 obtain ⟨a,ha,hu⟩:=List.mem_flatMap.1 hu
 exact h a ha u hu
def InsPostS (B:Nat) (v:Value) (vs:List ByteArray) (x:ByteArray) (i:Nat) (w:World) (e:Ending) (w':World):Prop :=
 ∃ u,e=.returned u∧OwnRow strRow 1 9 w' B u (vs.take i++x::vs.drop i)∧w.grownBy w' v.ownBlock∧(u.ownBlock=v.ownBlock∨u.ownBlock=some w.heap.size)
section
variable {w:World} {B vb n:Nat} {v:Value} {vs:List ByteArray} {x:ByteArray}
set_option maxHeartbeats 4000000 in
theorem insStr_end (h:OwnRow strRow 1 9 w B v vs) (hn:vs.length=n) (hn9:n≤1000000) (hx1:∀ y∈strRow x,y.oneCell'=true) (hvb:Blk w vb 9 (strRow x).toArray) (hB:B≤w.heap.size) :
  Calls Tryz.prog 166 #[v,.int .i64 n,.slice (some ⟨vb,0,none⟩) 1 1] w (InsPostS B v vs x n w):=by
 obtain ⟨v',w',e1,e2,e3,e4⟩:=run_append_rows (ty:=202) strRow_len (by omega) under_strs info_strE (by rfl) (by omega) h (.slice (some ⟨vb,0,none⟩) 1 1) [x] (RdRow.one hvb rfl) (fun a ha => (show a=x by simpa using ha) ▸ hx1) (by simp;omega) (by simp;omega) hB
 have HP:=Zh (show InsPostS B v vs x n w (.returned v') w' from ⟨v',rfl,by rw [List.take_of_length_le (by omega),List.drop_of_length_le (by omega)];exact e2,e3,e4⟩)
 have Hrun:=Zh e1
 have hz:¬ ((1:Int)=0):=by omega
 rcases h.2 with ⟨rfl,h0⟩ | ⟨g,c,cur,rfl,_,_,hnc,hcm,_⟩
 · obtain rfl:n=0:=by omega
   clear h hvb hx1 e1 e2 e3 e4
   go_enter Tryz.func166,Tryz.ntmps166
   go_wp2_with (at_builtin;refine Lib.wpList_append_run _ rfl _ _ _ _ rfl _ _ rfl rfl _ _ Hrun.out ?_)
   go_ret
   exact HP.out
 rw [hn] at Hrun HP hnc ⊢
 unfold maxLen at hcm
 clear h hvb hx1 e1 e2 e3 e4
 go_enter Tryz.func166,Tryz.ntmps166
 go_wp2_with (at_builtin;refine Lib.wpList_append_run _ rfl _ _ _ _ rfl _ _ rfl rfl _ _ Hrun.out ?_)
 all_goals
  go_ret
  exact HP.out
set_option maxHeartbeats 4000000 in
theorem insStr_shift {i g c:Nat} {cur:Array Value} (hn:vs.length=n) (hi:i<n) (hn9:n≤1000000) (h1:∀ a∈vs,∀ y∈strRow a,y.oneCell'=true) (hx1:∀ y∈strRow x,y.oneCell'=true) (hvb:Blk w vb 9 (strRow x).toArray) (hne:vb≠g)
  (hg:B≤g) (hb:Blk w g 9 cur) (hroom:n+1≤c) (hm:c≤maxLen) (hs:cur.size=c) (ht:cur.toList.take (n)=vs.flatMap strRow) :
  Calls Tryz.prog 166 #[.slice (some ⟨g,0,none⟩) n c,.int .i64 i,.slice (some ⟨vb,0,none⟩) 1 1] w (InsPostS B (.slice (some ⟨g,0,none⟩) n c) vs x i w):=by
 have hpost:InsPostS B (.slice (some ⟨g,0,none⟩) n c) vs x i w (.returned (.slice (some ⟨g,0,none⟩) (n+1) c)) ((w.drew.setCells g ((i+1)) ((vs.drop i).flatMap strRow)).setCells g (i) (strRow x)):=by
  refine ⟨_,rfl,?_,grown_setCells _ _ (grown_setCells _ _ ⟨rfl,rfl,rfl,Nat.le_refl _,fun _ _ _ => rfl⟩),.inl rfl⟩
  have:=own_shiftS (B:=B) (i:=i) (l:=vs) x hg hb (by omega) hm hs (by rw [hn];exact ht) (by omega)
  rw [hn] at this
  exact this
 have HP:=Zh hpost
 have hdl:((vs.drop i).flatMap strRow).length=(n-i):=by rw [rows_lengthS,List.length_drop,hn]
 have hcell:∀ j v,(vs.flatMap strRow)[j]?=some v→w.cell? ⟨g,j,none⟩=some v:=fun j v hj => by
  rw [hb.cell,← Array.getElem?_toList]
  have hjl:j<n:=by have:=(List.getElem?_eq_some_iff.1 hj).1;rw [rows_lengthS,hn] at this;exact this
  rw [← ht,List.getElem?_take,if_pos hjl] at hj
  exact hj
 have hsome:∀ j,j<(n+1)→(w.cell? ⟨g,j,none⟩).isSome=true:=fun j hj => by
  have hcz:(n+1)≤c:=hroom
  rw [hb.cell,Array.getElem?_eq_getElem (by omega)]
  rfl
 have hsz:(Tryz.prog.info? 9).map (·.size)=some 1:=by
  obtain ⟨i0,hi0,h0,h1,h2⟩:=info_parts info_strE
  rw [hi0];simp [h1]
 have hov:∀ lb cb,(callFunc 191 #[.slice (some ⟨vb,0,none⟩) 1 1,.slice (some ⟨g,(i+1),none⟩) lb cb]).run Tryz.prog w=.ok (.value (.bool false)) w:=fun lb cb => by
  rw [run_callFunc_extern Tryz.func191 (by kernel_rfl) (by kernel_rfl) (by kernel_rfl) (e:=Extern.SlicesOverlaps.overlaps #[202,202] #[4]) (by kernel_rfl),
   Lib.run_overlaps_apart w 202 4 9 under_strs 1 (fun W => by obtain ⟨i0,hi0,h0,h1,h2⟩:=info_parts info_strE;simp [Go.sizeOf,typeInfo,hi0,h1]) ⟨vb,0,none⟩ ⟨g,(i+1),none⟩ 1 1 lb cb hne 9 9 1 c (by unfold World.shape?;rw [show w.heap[vb]?=_ from hvb];rfl) (by unfold World.shape?;rw [show w.heap[g]?=_ from hb];simp [hs]) (by omega) (hvb.free 0) (hvb.free 1)]
  rfl
 have hcp1:∀ ty dc sc,(Builtin.copy_ #[202,202] ty #[.slice (some ⟨g,(i+1),none⟩) (n+1-(i+1)) dc,.slice (some ⟨g,i,none⟩) (n+1-i) sc]).run Tryz.prog w.drew=.ok (goInt ((n-i:Nat):Int)) (w.drew.setCells g ((i+1)) ((vs.drop i).flatMap strRow)):=fun ty dc sc => by
  have hmin:Nat.min (n+1-i) (n+1-(i+1))=n-i:=by rw [show Nat.min (n+1-i) (n+1-(i+1))=n+1-(i+1) from Nat.min_eq_right (by omega)];omega
  have:=run_copy_z (P:=Tryz.prog) 1 w.drew 202 202 ty 9 g ((i+1)) (n+1-(i+1)) dc ⟨g,i,none⟩ (n+1-i) sc ((vs.drop i).flatMap strRow) under_strs hsz (by rw [hdl,hmin,Nat.mul_one])
   (fun j v hj => by
    rw [add_none]
    rw [rows_dropS,List.getElem?_drop] at hj
    exact hcell _ v hj) (fun j hj => hsome _ (by omega)) (fun j hj => hb.free _) (strs_one fun a ha => h1 a (List.mem_of_mem_drop ha))
  rw [hmin] at this
  exact this
 obtain ⟨W1,hW1⟩:∃ W1,W1=w.drew.setCells g ((i+1)) ((vs.drop i).flatMap strRow):=⟨_,rfl⟩
 have hb1:=Blk.setCells ((vs.drop i).flatMap strRow) ((i+1)) (show Blk w.drew g _ cur from hb)
 rw [← hW1] at hb1 hcp1 HP
 have hv1:Blk W1 vb 9 (strRow x).toArray:=by
  have hgr:w.grownBy W1 (some g):=by rw [hW1];exact grown_setCells _ _ ⟨rfl,rfl,rfl,Nat.le_refl _,fun _ _ _ => rfl⟩
  unfold Blk
  rw [hgr.block vb hvb.lt (fun e => hne (by injection e))]
  exact hvb
 have hcp2:∀ (W:World),(∀ x,W.cell? x=W1.cell? x)→(∀ x,W.frozen? x=W1.frozen? x)→∀ ty dc,(Builtin.copy_ #[202,202] ty #[.slice (some ⟨g,i,none⟩) (n+1-i) dc,.slice (some ⟨vb,0,none⟩) 1 1]).run Tryz.prog W=.ok (goInt 1) (W.setCells g (i) (strRow x)):=fun W hWc hWf ty dc => by
  have hmin:Nat.min 1 (n+1-i)=1:=Nat.min_eq_left (by omega)
  have hcz:(n+1)≤c:=hroom
  have:=run_copy_z (P:=Tryz.prog) 1 W 202 202 ty 9 g (i) (n+1-i) dc ⟨vb,0,none⟩ 1 1 (strRow x) under_strs hsz (by rw [hmin];rfl)
   (fun j v hj => by
    rw [add_none,hWc,Nat.zero_add,hv1.cell,← Array.getElem?_toList]
    exact hj) (fun j hj => by
    rw [hWc,hb1.cell,Array.getElem?_eq_getElem (by rw [setAll_size,hs];rw [strRow_len] at hj;omega)]
    rfl) (fun j hj => by rw [hWf];exact hb1.free _) hx1
  rw [hmin] at this
  exact this
 have H1:=Zh hcp1
 have H2:=Zh hcp2
 have HOV:=Zh hov
 have mixed:Tryz.prog.follows .mixedOrders=true:=by kernel_rfl
 have hz1:¬ ((1:Int)=0):=by omega
 have hz2:¬ ((i:Int)=(n:Int)):=by omega
 have hw1:IntKind.i64.wrap ((i:Int)+1)=(i:Int)+1:=by rw [IntKind.wrap_i64];omega
 have hbd1:(0:Int)≤(i:Int)+1:=by omega
 have hin:i≤n:=by omega
 have htn:((i:Int)+1).toNat=i+1:=by omega
 have hb2:¬ (c=i+1):=by omega
 have hb3:(i:Int)≤(n:Int)+1:=by omega
 have hb4:¬ (c=i):=by omega
 have hc63:c≤9223372036854775807:=by unfold maxLen at hm;omega
 have hni:¬ (n=i):=by omega
 clear hpost hdl hcell hsome hsz hov hcp1 hcp2 hb1 hv1 hW1 h1 hx1 hvb hb hs ht hm hn
 go_enter Tryz.func166,Tryz.ntmps166
 go_wp2_with (simp only [HOV.out])
 go_region_law_o (refine Go.Proofs.step_copy_runI rfl _ _ 202 202 rfl (.slice (some ⟨g,(i+1),none⟩) (n+1-(i+1)) (c-(i+1))) (.slice (some ⟨g,i,none⟩) (n+1-i) (c-i)) (by simp [Act.eval,Act.put]) (by simp [Act.eval,Act.put]) (H1.out 3 (c-(i+1)) (c-i)) ?_)
 have H3:=Zh (H2.out W1 (fun _ => rfl) (fun _ => rfl))
 go_wp2_with (simp only [H3.out])
 go_ret
 exact HP.out
set_option maxHeartbeats 4000000 in
theorem insStr_grow {i g c:Nat} {cur:Array Value} (hn:vs.length=n) (hi:i<n) (hn9:n≤1000000) (h1:∀ a∈vs,∀ y∈strRow a,y.oneCell'=true) (hx1:∀ y∈strRow x,y.oneCell'=true) (hvb:Blk w vb 9 (strRow x).toArray)
  (hB:B≤w.heap.size) (hb:Blk w g 9 cur) (hnc:n≤c) (hroom:c<n+1) (hs:cur.size=c) (ht:cur.toList.take (n)=vs.flatMap strRow) :
  Calls Tryz.prog 166 #[.slice (some ⟨g,0,none⟩) n c,.int .i64 i,.slice (some ⟨vb,0,none⟩) 1 1] w (InsPostS B (.slice (some ⟨g,0,none⟩) n c) vs x i w):=by
 obtain rfl:c=n:=by omega
 obtain ⟨i0,hi0,hz0,hz1,hz2⟩:=info_parts info_strE
 have hcell:∀ j v,(vs.flatMap strRow)[j]?=some v→w.cell? ⟨g,j,none⟩=some v:=fun j v hj => by
  rw [hb.cell,← Array.getElem?_toList]
  have hjl:j<c:=by have:=(List.getElem?_eq_some_iff.1 hj).1;rw [rows_lengthS,hn] at this;exact this
  rw [← ht,List.getElem?_take,if_pos hjl] at hj
  exact hj
 have hfl:(vs.flatMap strRow).length=c:=by rw [rows_lengthS,hn]
 have hdl:((vs.drop i).flatMap strRow).length=(c-i):=by rw [rows_lengthS,List.length_drop,hn]
 have hti:((vs.take i).flatMap strRow).length=i:=by rw [rows_lengthS,List.length_take,hn];congr 1;omega
 have hrz:∀ ty,(Builtin.append_ #[202,3] ty #[.slice (some ⟨g,0,none⟩) i c,.int .i64 ((c:Int)+1-(i:Int))]).run Tryz.prog w =
   .ok (.slice (some ⟨w.heap.size,0,none⟩) (c+1) (grownCap w (c+1) c 9)) (w.drew.alloc (.cells (((vs.take i).flatMap strRow).toArray++Builtin.zeroCells (Value.string ⟨#[]⟩).cells (c+1-i)++Builtin.zeroCells (Value.string ⟨#[]⟩).cells (grownCap w (c+1) c 9-(c+1))) 9)):=fun ty => by
  have hold:(Builtin.firstCells i0.size i (.slice (some ⟨g,0,none⟩) i c)).run Tryz.prog w.drew=.ok ((vs.take i).flatMap strRow).toArray w.drew:=by
   rw [hz1]
   exact run_firstCells_some w.drew 1 i ⟨g,0,none⟩ i c ((vs.take i).flatMap strRow) (by rw [hti,Nat.mul_one]) (fun j v hj => by
    rw [add_none,Nat.zero_add]
    rw [rows_takeS,List.getElem?_take] at hj
    split at hj
    · exact hcell j v hj
    cases hj)
  have h:=Lib.run_append_grow_zeros w 202 3 ty 9 i0 _ .i64 .i64 under_strs (by kernel_rfl) hi0 hz0 (some ⟨g,0,none⟩) i c ((vs.take i).flatMap strRow) hold (c+1-i) (by omega) (by omega) (by omega) (by omega) (by rw [hz2];omega) (by rw [hz2,show i+(c+1-i)=c+1 by omega];exact growslice_fits (by omega) (by omega))
  rw [show i+(c+1-i)=c+1 by omega] at h
  rw [show (c:Int)+1-(i:Int)=((c+1-i:Nat):Int) by omega]
  exact h
 have hge:=grownCap_ge w (c+1) c 9
 have hle:=grownCap_le_maxLen w (c+1) c 9 (by unfold maxLen;omega)
 obtain ⟨G,hG⟩:∃ G,G=grownCap w (c+1) c 9:=⟨_,rfl⟩
 rw [← hG] at hrz hge hle
 obtain ⟨Z,hZ⟩:∃ Z:Array Value,Z=Builtin.zeroCells (Value.string ⟨#[]⟩).cells (c+1-i)++Builtin.zeroCells (Value.string ⟨#[]⟩).cells (G-(c+1)):=⟨_,rfl⟩
 have hZl:Z.size=(G-i):=by
  rw [hZ,Array.size_append]
  simp only [Builtin.zeroCells,Array.size_map,Array.size_range]
  show (c+1-i)*1+(G-(c+1))*1=_
  omega
 obtain ⟨W1,hW1⟩:∃ W1,W1=w.drew.alloc (.cells (((vs.take i).flatMap strRow).toArray++Z) 9):=⟨_,rfl⟩
 have hrz2:∀ ty,(Builtin.append_ #[202,3] ty #[.slice (some ⟨g,0,none⟩) i c,.int .i64 ((c:Int)+1-(i:Int))]).run Tryz.prog w=.ok (.slice (some ⟨w.heap.size,0,none⟩) (c+1) G) W1:=fun ty => by
  rw [hrz ty,hW1,hZ,Array.append_assoc]
 have hg1:w.grownBy W1 none:=by rw [hW1];exact ⟨rfl,rfl,rfl,by simp [World.alloc],fun k hk _ => by rw [Below.heap_alloc _ _ _ (by exact hk)];rfl⟩
 have hb1:Blk W1 w.heap.size 9 (((vs.take i).flatMap strRow).toArray++Z):=by rw [hW1];exact Blk.alloc_new w.drew 9 _
 have hgl:=hb.lt
 have hvl:=hvb.lt
 have hv1:Blk W1 vb 9 (strRow x).toArray:=by
  unfold Blk
  rw [hg1.block vb hvl (fun e => by cases e)]
  exact hvb
 obtain ⟨N0,hN0⟩:∃ N0,N0=w.heap.size:=⟨_,rfl⟩
 have hsz:(Tryz.prog.info? 9).map (·.size)=some 1:=by rw [hi0];exact congrArg some hz1
 have hsz1:(((vs.take i).flatMap strRow).toArray++Z).size=G:=by
  rw [Array.size_append,List.size_toArray,hti,hZl]
  omega
 have hcA:∀ ty dc,(Builtin.copy_ #[202,202] ty #[.slice (some ⟨w.heap.size,i,none⟩) (c+1-i) dc,.slice (some ⟨vb,0,none⟩) 1 1]).run Tryz.prog W1=.ok (goInt 1) (W1.setCells w.heap.size (i) (strRow x)):=fun ty dc => by
  have hmin:Nat.min 1 (c+1-i)=1:=Nat.min_eq_left (by omega)
  have:=run_copy_z (P:=Tryz.prog) 1 W1 202 202 ty 9 w.heap.size (i) (c+1-i) dc ⟨vb,0,none⟩ 1 1 (strRow x) under_strs hsz (by rw [hmin];rfl)
   (fun j v hj => by
    rw [add_none,Nat.zero_add,hv1.cell,← Array.getElem?_toList]
    exact hj) (fun j hj => by
    rw [hb1.cell,Array.getElem?_eq_getElem (by rw [hsz1];rw [strRow_len] at hj;omega)]
    rfl) (fun j hj => hb1.free _) hx1
  rw [hmin] at this
  exact this
 obtain ⟨W2,hW2⟩:∃ W2,W2=W1.setCells w.heap.size (i) (strRow x):=⟨_,rfl⟩
 have hb2:=Blk.setCells (strRow x) (i) hb1
 rw [← hW2] at hcA hb2
 have hg2:∀ k,k<w.heap.size→W2.heap[k]?=w.heap[k]?:=fun k hk => by
  rw [hW2]
  have hgr:=grown_setCells (b:=w.heap.size) (strRow x) (i) (show W1.grownBy W1 (some w.heap.size) from ⟨rfl,rfl,rfl,Nat.le_refl _,fun _ _ _ => rfl⟩)
  rw [hgr.block k (Nat.lt_of_lt_of_le hk hg1.size) (fun e => by injection e with e;omega)]
  exact hg1.block k hk (fun e => by cases e)
 have hmin2:Nat.min (c-i) (c+1-(i+1))=c-i:=by rw [show c+1-(i+1)=c-i by omega];exact Nat.min_self _
 have hcB:∀ ty dc sc,(Builtin.copy_ #[202,202] ty #[.slice (some ⟨w.heap.size,(i+1),none⟩) (c+1-(i+1)) dc,.slice (some ⟨g,i,none⟩) (c-i) sc]).run Tryz.prog W2.drew=.ok (goInt ((c-i:Nat):Int)) (W2.drew.setCells w.heap.size ((i+1)) ((vs.drop i).flatMap strRow)):=fun ty dc sc => by
  have:=run_copy_z (P:=Tryz.prog) 1 W2.drew 202 202 ty 9 w.heap.size ((i+1)) (c+1-(i+1)) dc ⟨g,i,none⟩ (c-i) sc ((vs.drop i).flatMap strRow) under_strs hsz (by rw [hdl,hmin2,Nat.mul_one])
   (fun j v hj => by
    rw [add_none]
    rw [rows_dropS,List.getElem?_drop] at hj
    show W2.cell? _=_
    rw [World.cell?_of_block (hg2 g hgl)]
    exact hcell _ v hj) (fun j hj => by
    show (W2.cell? _).isSome=true
    rw [hb2.cell,Array.getElem?_eq_getElem (by rw [setAll_size,hsz1];omega)]
    rfl) (fun j hj => hb2.free _) (strs_one fun a ha => h1 a (List.mem_of_mem_drop ha))
  rw [hmin2] at this
  exact this
 obtain ⟨W3,hW3⟩:∃ W3,W3=W2.drew.setCells w.heap.size ((i+1)) ((vs.drop i).flatMap strRow):=⟨_,rfl⟩
 have hb3:=Blk.setCells ((vs.drop i).flatMap strRow) ((i+1)) (show Blk W2.drew w.heap.size _ _ from hb2)
 rw [← hW3] at hcB hb3
 have hlen:(vs.take i++x::vs.drop i).length=c+1:=by simp;omega
 have hpost:InsPostS B (.slice (some ⟨g,0,none⟩) c c) vs x i w (.returned (.slice (some ⟨w.heap.size,0,none⟩) (c+1) G)) W3:=by
  refine ⟨_,rfl,⟨by rw [rows_lengthS,Nat.mul_one],.inr ⟨w.heap.size,G,_,by rw [hlen],hB,hb3,by omega,hle,by rw [setAll_size,setAll_size,Nat.mul_one];exact hsz1,?_⟩⟩,?_,.inr rfl⟩
  · rw [hlen,Nat.mul_one]
    apply List.ext_getElem?
    intro k
    rw [List.getElem?_take]
    have e:(vs.take i++x::vs.drop i).flatMap strRow=(vs.flatMap strRow).take (i)++(strRow x++(vs.flatMap strRow).drop (i)):=by
     rw [List.flatMap_append,List.flatMap_cons,rows_takeS,rows_dropS]
    have htl:((vs.flatMap strRow).take (i)).length=i:=by rw [List.length_take,hfl];omega
    by_cases hk:k<(c+1)
    · rw [if_pos hk,setAll_get _ _ _ _ (by rw [hdl,setAll_size,hsz1];omega),hdl,setAll_get _ _ _ _ (by rw [strRow_len,hsz1];omega),strRow_len,e]
      by_cases h1:k<i
      · rw [if_pos (by omega),if_pos h1,List.getElem?_append_left (by omega),Array.toList_append,List.toList_toArray,List.getElem?_append_left (by rw [hti];omega),rows_takeS]
      rw [List.getElem?_append_right (by omega),htl]
      by_cases h2:k<i+1
      · rw [if_pos (by omega),if_neg h1,if_pos h2,List.getElem?_append_left (by rw [strRow_len];omega)]
      rw [if_neg (by omega),if_pos (by omega),List.getElem?_append_right (by rw [strRow_len];omega),strRow_len,rows_dropS,List.getElem?_drop,List.getElem?_drop]
      congr 1
    rw [if_neg hk]
    symm
    apply List.getElem?_eq_none
    rw [rows_lengthS,hlen]
    omega
  have hgr3:=grown_setCells (b:=w.heap.size) ((vs.drop i).flatMap strRow) ((i+1)) (show W2.drew.grownBy W2.drew (some w.heap.size) from ⟨rfl,rfl,rfl,Nat.le_refl _,fun _ _ _ => rfl⟩)
  rw [← hW3] at hgr3
  have hgr2:=grown_setCells (b:=w.heap.size) (strRow x) (i) (show W1.grownBy W1 (some w.heap.size) from ⟨rfl,rfl,rfl,Nat.le_refl _,fun _ _ _ => rfl⟩)
  rw [← hW2] at hgr2
  refine ⟨hgr3.os.trans (hgr2.os.trans hg1.os),hgr3.tape.trans (hgr2.tape.trans hg1.tape),hgr3.output.trans (hgr2.output.trans hg1.output),Nat.le_trans hg1.size (Nat.le_trans hgr2.size hgr3.size),fun k hk _ => ?_⟩
  rw [hgr3.block k (Nat.lt_of_lt_of_le hk (Nat.le_trans hg1.size hgr2.size)) (fun e => by injection e with e;omega)]
  exact hg2 k hk
 have mixed:Tryz.prog.follows .mixedOrders=true:=by kernel_rfl
 have HP:=Zh hpost
 have Hrz:=Zh hrz2
 have HA:=Zh hcA
 have HBB:=Zh hcB
 have hGi:¬ (G=i):=by omega
 have hGi1:¬ (G=i+1):=by omega
 have hni:¬ (c=i):=by omega
 have hnI:¬ ((i:Int)=(c:Int)):=by omega
 have hw1:IntKind.i64.wrap ((i:Int)+1)=(i:Int)+1:=by rw [IntKind.wrap_i64];omega
 have hbd1:(0:Int)≤(i:Int)+1:=by omega
 have htn:((i:Int)+1).toNat=i+1:=by omega
 have hbb3:(i:Int)≤(c:Int):=by omega
 have hg63:G≤9223372036854775807:=by unfold maxLen at hle;omega
 clear hpost hcell hfl hdl hti hrz hge hle hG hZ hZl hW1 hrz2 hg1 hb1 hgl hvl hv1 hN0 hsz hsz1 hcA hW2 hb2 hg2 hmin2 hcB hW3 hb3 hlen hb hs ht hvb hi0 hz0 hz1 hz2 h1 hx1 hn hroom hnc
 go_enter Tryz.func166,Tryz.ntmps166
 go_wp2_with (first
  | (at_builtin;refine Lib.wpList_append_run _ rfl _ _ _ _ rfl _ _ rfl rfl _ _ (Hrz.out _) ?_)
  | (simp only [HA.out]))
 go_region_law_o (refine Go.Proofs.step_copy_runI rfl _ _ 202 202 rfl (.slice (some ⟨w.heap.size,(i+1),none⟩) (c+1-(i+1)) (G-(i+1))) (.slice (some ⟨g,i,none⟩) (c-i) (c-i)) (by simp [Act.eval,Act.put]) (by simp [Act.eval,Act.put]) (HBB.out 3 (G-(i+1)) (c-i)) ?_)
 go_wp2
 go_ret
 exact HP.out
theorem insStr_any {i:Nat} (h:OwnRow strRow 1 9 w B v vs) (hn:vs.length=n) (hi:i≤n) (hn9:n≤1000000) (h1:∀ a∈vs,∀ y∈strRow a,y.oneCell'=true) (hx1:∀ y∈strRow x,y.oneCell'=true) (hvb:Blk w vb 9 (strRow x).toArray) (hne:v.ownBlock≠some vb) (hB:B≤w.heap.size) :
  Calls Tryz.prog 166 #[v,.int .i64 i,.slice (some ⟨vb,0,none⟩) 1 1] w (InsPostS B v vs x i w):=by
 by_cases hin:i=n
 · subst hin
   exact insStr_end h hn hn9 hx1 hvb hB
 rcases h.2 with ⟨rfl,h0⟩ | ⟨g,c,cur,rfl,hg,hh,hnc,hcm,hs,ht⟩
 · omega
 rw [Nat.mul_one] at hs ht
 rw [hn] at hnc ht ⊢
 by_cases hroom:n+1≤c
 · exact insStr_shift hn (by omega) hn9 h1 hx1 hvb (fun e => hne (by rw [e];rfl)) hg hh hroom hcm hs ht
 exact insStr_grow hn (by omega) hn9 h1 hx1 hvb hB hh hnc (by omega) hs ht
end
end Go.Proofs.YtdacanghbepjpaaGreatDoor
namespace Go.Proofs.YtdacanghbepjpaaGreatDoor
open Go.RowKit Go.Maps
open Dsk
section
variable {w0 w w':World} {X:Nat→Prop} {v:Value} {d:Dk}
theorem sgT_take_le (l:List Sp.Span) (k:Nat):(sgT (l.take k)).length≤(sgT l).length:=by
 have e:sgT l=sgT (l.take k)++sgT (l.drop k):=by rw [← sgT_append,List.take_append_drop]
 rw [e,List.length_append]
 omega
theorem sgEnds_more (l:List Sp.Span) (k:Nat) (hk:k<l.length):sgEnds (l.take k++[l[k]])=sgEnds (l.take k)++[((sgT (l.take (k+1))).length:Int)]:=by
 rw [sgEnds_snoc,List.take_succ_eq_append_getElem hk,sgT_snoc,List.length_append]
 congr 2
set_option maxHeartbeats 16000000 in
theorem hseg_any (h:Live w0 X w v d) (he:LEnv w) {n:Nat} (hn:n≤999999999) (l:List Sp.Span) (t:Str) (hm:∀ x∈l,Sp.May x) (ht:Frm.nextAt t=none) (T:ByteArray) (hT:T.data.toList=sgT l++t) (hTz:T.size≤1048576) (r:Int) (hrd:d.read (ln n)=(T.data.toList,r)) :
  Calls Tryz.prog 161 #[v,.int .i64 n] w fun e w' => ∃ sv ev,e=.returned (.tuple #[segVal n sv ev,.string T,.bool true])∧OwnSp w' w.heap.size sv l∧OwnI w' w.heap.size ev (sgEnds l)∧Below w.heap.size w w':=by
 have HRD:=Zh (fun (W:World) (hW:Below w.heap.size w W) => (h.keep hW).readP (lnB n) T (n:=ln n) (lnB_data n) hrd (by have:=lnB_size hn;omega))
 have hTl:T.size=(sgT l).length+t.length:=by have:=congrArg List.length hT;rw [Sp.size_toList,List.length_append] at this;exact this
 have hle:∀ k,(sgT (l.take k)).length≤T.size:=fun k => by have:=sgT_take_le l k;omega
 have HNX:=Zh (fun (k:Nat) (hk:k<l.length) (W:World) => show Calls Tryz.prog 187 #[.string T,.int .i64 ((sgT (l.take k)).length:Nat)] W fun e w' => e=.returned (.tuple #[.string ⟨(Sp.enc l[k]).toArray⟩,.int .i64 ((sgT (l.take (k+1))).length:Nat),.bool true])∧Below W.heap.size W w' from by
  refine (next_in T _ W (by omega) (hle k)).mono ?_
  rintro e w' ⟨rfl,hb⟩
  refine ⟨?_,hb⟩
  unfold nextR
  rw [hT,sg_next l t hm ht k (by omega),List.getElem?_eq_getElem hk,sg_take_len l k hk]
  rfl)
 have HNE:=Zh (fun (W:World) => show Calls Tryz.prog 187 #[.string T,.int .i64 ((sgT (l.take l.length)).length:Nat)] W fun e w' => e=.returned (.tuple #[.string ⟨#[]⟩,.int .i64 0,.bool false])∧Below W.heap.size W w' from by
  refine (next_in T _ W (by omega) (hle _)).mono ?_
  rintro e w' ⟨rfl,hb⟩
  refine ⟨?_,hb⟩
  unfold nextR
  rw [hT,sg_next l t hm ht l.length (Nat.le_refl _),List.getElem?_eq_none (Nat.le_refl _)]
  rfl)
 have HDC:=Zh (fun (k:Nat) (hk:k<l.length) (W:World) => hdecode_enc (w:=W) l[k] (hm _ (List.getElem_mem hk)) ⟨(Sp.enc l[k]).toArray⟩ (by simp))
 have HEQ:=Zh (sgEnds_more l)
 have HLE:=Zh hle
 have HTZ:=Zh hTz
 have HLZ:=Zh (show l.length≤1048576 by have:=(sgT_len l hm).1;omega)
 obtain ⟨q,hq⟩:∃ q,q=w.heap.size:=⟨_,rfl⟩
 obtain ⟨w1,hw1⟩:∃ w1,w1=w.alloc (.cells #[.int .i64 n,.slice none 0 0,.slice none 0 0] 132 (0,0)):=⟨_,rfl⟩
 have hb1:=Zb hw1
 have hk1:Blk w1 q 132 #[.int .i64 n,.slice none 0 0,.slice none 0 0]:=by
  rw [hw1,hq]
  exact Blk.alloc_new w _ _
 have HQZ:=Zh (show w.heap.size≤q from by omega)
 have HNM:=Zh (fun (W:World) (hW:Below w.heap.size w W) => segName_any (he.below hW) hn none none 0 0 0 0)
 unfold segVal at HNM ⊢
 have HB1:=Zh hb1
 have HK1:=Zh hk1
 have HW1:=Zh hw1
 obtain ⟨bd,rfl⟩:=h.ptr
 clear h he hm ht hT hTz hrd hTl hle hb1 hk1 hw1
 go_enter Tryz.func161,Tryz.ntmps161
 go_wp2_with fail
 rw [← HW1.out,← hq]
 clear hq
 refine (HNM.out w1 HB1.out).mono ?_
 rintro e w2 ⟨rfl,hb2⟩
 have HB2:=Zh (HB1.out.trans (hb2.mono HB1.out.size))
 have HK2:=Zh (HK1.out.below hb2)
 clear hb2
 go_wp2_with fail
 refine (HRD.out w2 HB2.out).mono ?_
 rintro e w3 ⟨rfl,hb3⟩
 have HB3:=Zh (HB2.out.trans (hb3.mono HB2.out.size))
 have HK3:=Zh (HK2.out.below hb3)
 clear hb3 HB1 HK1 HW1 HB2 HK2 HNM HRD
 go_wp2_with fail
 go_loopw [5,7] (fun v5 v7 wr => ∃ (k:Nat) (sx ex:Option Addr) (sc ec:Nat),v5=.string T∧v7=.int .i64 ((sgT (l.take k)).length:Nat)∧k≤l.length∧Blk wr q 132 #[.int .i64 n,.slice sx k sc,.slice ex k ec]∧OwnSp wr w.heap.size (.slice sx k sc) (l.take k)∧OwnI wr w.heap.size (.slice ex k ec) (sgEnds (l.take k))∧Below w.heap.size w wr) (fun _ v7 _ => T.size-(intOf v7).toNat)
 case atStart => exact ⟨0,none,none,0,0,rfl,rfl,by omega,HK3.out,OwnRow.nil _ _,OwnI.nil _ _,HB3.out⟩
 case round =>
 obtain ⟨k,sx,ex,sc,ec,rfl,rfl,hk,hkb,hsp,hen,hb⟩:=hrel
 have HKQ:=Zh hkb
 have HB:=Zh hb
 have HSP:=Zh hsp
 have HEN:=Zh hen
 have q0:=hkb.cell 0
 have q1:=hkb.cell 1
 have q2:=hkb.cell 2
 simp only [Zx] at q0 q1 q2
 clear hkb hb hsp hen HK3 HB3
 by_cases hkl:k<l.length
 · have HN:=Zh (HNX.out k hkl)
   have HD:=Zh (HDC.out k hkl)
   have HEE:=Zh (HEQ.out k hkl)
   have hxl:(l.take k).length=k:=by rw [List.length_take];omega
   have HTK:=Zh (List.take_succ_eq_append_getElem hkl)
   have HSTEP:=Zh (show (sgT (l.take k)).length<(sgT (l.take (k+1))).length∧(sgT (l.take (k+1))).length≤T.size from ⟨by rw [sg_take_len l k hkl];omega,HLE.out _⟩)
   have hk63:k≤1048576:=by have:=HLZ.out;omega
   obtain ⟨F,hF⟩:∃ F:ByteArray,F=⟨(Sp.enc l[k]).toArray⟩:=⟨_,rfl⟩
   rw [← hF] at HN HD
   clear hF
   obtain ⟨xk,hxk⟩:∃ xk,xk=l[k]:=⟨_,rfl⟩
   rw [← hxk] at HD HEE HTK
   obtain ⟨xs,hxs⟩:∃ xs,xs=l.take k:=⟨_,rfl⟩
   rw [← hxs] at HEE HTK HSP HEN hxl HSTEP HN ⊢
   obtain ⟨pk,hpk⟩:∃ pk,pk=(sgT xs).length:=⟨_,rfl⟩
   obtain ⟨nx,hnx⟩:∃ nx,nx=(sgT (l.take (k+1))).length:=⟨_,rfl⟩
   rw [← hpk] at HN HSTEP ⊢
   rw [← hnx] at HN HSTEP HEE
   have HNXT:=Zh hnx
   have HXS:=Zh hxl
   clear hxk hxs hpk hnx hxl
   obtain ⟨tr,id,pa,se,ho,sa,du,no⟩:=xk
   unfold spV at HD
   simp only at HD
   go_wp2_with fail
   refine (HN.out wr).mono ?_
   rintro e y1 ⟨rfl,hb1⟩
   have HC1:=Zh hb1
   clear hb1 q0 q1 q2
   go_wp2_with fail
   refine (HD.out y1).mono ?_
   rintro e y2 ⟨rfl,hb2⟩
   have HC2:=Zh (HC1.out.trans (hb2.mono HC1.out.size))
   clear hb2
   obtain ⟨bx,hbx⟩:∃ bx,bx=y2.heap.size:=⟨_,rfl⟩
   obtain ⟨y3,hy3⟩:∃ y3,y3=y2.alloc (.cells #[.int .i64 tr,.int .i64 id,.int .i64 pa,.string se,.string ho,.int .i64 sa,.int .i64 du,.string no] 47 (0,0)):=⟨_,rfl⟩
   have hb3:=Zb hy3
   have HK3:=Zh (show Blk y3 bx 47 #[.int .i64 tr,.int .i64 id,.int .i64 pa,.string se,.string ho,.int .i64 sa,.int .i64 du,.string no] by rw [hy3,hbx];exact Blk.alloc_new y2 _ _)
   have HC3:=Zh (HC2.out.trans (hb3.mono HC2.out.size))
   have HY3:=Zh hy3
   have HBX:=Zh (show wr.heap.size≤bx by rw [hbx];exact HC2.out.size)
   clear hb3 hy3
   go_wp2_with fail
   rw [← HY3.out,← hbx]
   clear hbx HY3
   obtain ⟨x0,hx0⟩:∃ x0,x0=y3.drew:=⟨_,rfl⟩
   have hb0:Below wr.heap.size wr x0:=by rw [hx0];exact HC3.out.drew
   have hsp:=OwnRow.below HSP.out hb0
   have hen:=OwnI.kept HEN.out hb0
   have HPx0:=Zh (show Pend w x0 x0 (.slice sx k sc) (.slice ex k ec) xs ⟨tr,id,pa,se,ho,sa,du,no⟩ none none from Pend.start hsp hen)
   have hqx:=HKQ.out.below hb0
   have hqs:∀ b,(Value.slice sx k sc).ownBlock=some b∨(Value.slice ex k ec).ownBlock=some b→b≠q∧b≠bx∧w.heap.size≤b:=fun b hb => by
    rcases hb with hb | hb
    · obtain ⟨c1,e1⟩:=OwnRow.heap HSP.out hb
      have h1:=OwnRow.lt HSP.out b hb
      exact ⟨fun e => type_ne (e ▸ e1) HKQ.out (by decide),by have:=HBX.out;omega,h1.1⟩
    obtain ⟨c1,e1⟩:=HEN.out.heap hb
    have h1:=HEN.out.lt' b hb
    exact ⟨fun e => type_ne (e ▸ e1) HKQ.out (by decide),by have:=HBX.out;omega,h1.1⟩
   have HQS:=Zh hqs
   have HBZ:=Zh (show w.heap.size≤x0.heap.size from Nat.le_trans HB.out.size hb0.size)
   have HSV:=Zh (fun b (hb:(Value.slice sx k sc).ownBlock=some b) => (OwnRow.lt hsp b hb).2)
   have HBX0:=Zh (show Below w.heap.size w x0 from HB.out.trans (hb0.mono HB.out.size))
   have hkx:Blk x0 bx 47 #[.int .i64 tr,.int .i64 id,.int .i64 pa,.string se,.string ho,.int .i64 sa,.int .i64 du,.string no]:=by rw [hx0];exact HK3.out
   have HKX:=Zh hkx
   have HQX:=Zh hqx
   have HNEQ:=Zh (show bx≠q from by have:=HKQ.out.lt;have:=HBX.out;omega)
   have HTT:=Zh (fun (V:World) (hV:Chg (fun b => (Value.slice sx k sc).ownBlock=some b∨(Value.slice ex k ec).ownBlock=some b) x0 V) => show V.cell? ⟨bx,0,none⟩=some (.int .i64 tr)∧V.cell? ⟨bx,1,none⟩=some (.int .i64 id)∧V.cell? ⟨bx,2,none⟩=some (.int .i64 pa)∧V.cell? ⟨bx,3,none⟩=some (.string se)∧V.cell? ⟨bx,4,none⟩=some (.string ho)∧V.cell? ⟨bx,5,none⟩=some (.int .i64 sa)∧V.cell? ⟨bx,6,none⟩=some (.int .i64 du)∧V.cell? ⟨bx,7,none⟩=some (.string no) from by
    have k:=HKX.out.chg hV (fun e => (HQS.out _ e).2.1 rfl)
    exact ⟨k.cell 0,k.cell 1,k.cell 2,k.cell 3,k.cell 4,k.cell 5,k.cell 6,k.cell 7⟩)
   have HSS:=Zh (fun (V:World) (hV:Chg (fun b => (Value.slice sx k sc).ownBlock=some b∨(Value.slice ex k ec).ownBlock=some b) x0 V) => show V.cell? ⟨q,1,none⟩=some (.slice sx k sc)∧V.cell? ⟨q,2,none⟩=some (.slice ex k ec) from by
    have k:=HQX.out.chg hV (fun e => (HQS.out _ e).1 rfl)
    exact ⟨k.cell 1,k.cell 2⟩)
   have HFZ:=Zh (fun (V:World) (hV:Chg (fun b => (Value.slice sx k sc).ownBlock=some b∨(Value.slice ex k ec).ownBlock=some b) x0 V) => show V.frozen? ⟨q,1,none⟩=false∧V.frozen? ⟨q,2,none⟩=false from by
    have k:=HQX.out.chg hV (fun e => (HQS.out _ e).1 rfl)
    exact ⟨k.free 1,k.free 2⟩)
   have HTS:=Zh (fun (V V2:World) (hV:Chg (fun b => (Value.slice sx k sc).ownBlock=some b∨(Value.slice ex k ec).ownBlock=some b) x0 V) (hV2:Chg (fun b => b=q) V V2) => show V2.cell? ⟨bx,0,none⟩=some (.int .i64 tr)∧V2.cell? ⟨bx,1,none⟩=some (.int .i64 id)∧V2.cell? ⟨bx,2,none⟩=some (.int .i64 pa)∧V2.cell? ⟨bx,3,none⟩=some (.string se)∧V2.cell? ⟨bx,4,none⟩=some (.string ho)∧V2.cell? ⟨bx,5,none⟩=some (.int .i64 sa)∧V2.cell? ⟨bx,6,none⟩=some (.int .i64 du)∧V2.cell? ⟨bx,7,none⟩=some (.string no) from by
    have k:=(HKX.out.chg hV (fun e => (HQS.out _ e).2.1 rfl)).chg hV2 HNEQ.out
    exact ⟨k.cell 0,k.cell 1,k.cell 2,k.cell 3,k.cell 4,k.cell 5,k.cell 6,k.cell 7⟩)
   have HFN:=Zh (fun (V:World) (u1 u2:Value) (hp:Pend w x0 V (.slice sx k sc) (.slice ex k ec) xs ⟨tr,id,pa,se,ho,sa,du,no⟩ (some u1) (some u2)) (V2:World) (hV2:V2=(V.setCell ⟨q,1,none⟩ u1).setCell ⟨q,2,none⟩ u2) => show Blk V2 q 132 #[.int .i64 n,u1,u2]∧OwnSp V2 w.heap.size u1 (l.take (k+1))∧OwnI V2 w.heap.size u2 (sgEnds (l.take (k+1)))∧Below w.heap.size w V2 from by
    have hc2:Chg (fun b => b=q) V V2:=by rw [hV2];exact ((Chg.refl (fun b => b=q) V).setCell (p:=⟨q,_,none⟩) (fun _ => rfl) _).setCell (p:=⟨q,_,none⟩) (fun _ => rfl) _
    have hq0:=HQX.out.lt
    have hkq:=HQX.out.chg hp.chg (fun e => (HQS.out _ e).1 rfl)
    have e1:=hp.sp
    have e2:=hp.en
    rw [HTK.out]
    refine ⟨?_,OwnRow.chg e1.1 hc2 fun b hb e => ?_,OwnI.chg e2.1 hc2 fun b hb e => ?_,?_⟩
    · have:=(hkq.set 1 u1).set 2 u2
      rw [hV2]
      exact this
    · rcases e1.2 b hb with h1 | h1
      · exact (HQS.out b (.inl h1)).1 e
      omega
    · rcases e2.2 b hb with h1 | h1
      · exact (HQS.out b (.inr h1)).1 e
      omega
    refine HBX0.out.trans ?_
    have hbl:Below w.heap.size x0 V:=hp.chg.below HBZ.out fun b hb e => by have:=(HQS.out b e).2.2;omega
    rw [hV2]
    exact (hbl.setCell (p:=⟨q,1,none⟩) HQZ.out u1).setCell (p:=⟨q,2,none⟩) HQZ.out u2)
   have HXN:=Zh (show xs.length≤1048576 by rw [HXS.out];exact hk63)
   have hT:=HTT.out x0 (Chg.refl _ _)
   have hS:=HSS.out x0 (Chg.refl _ _)
   clear hb0 hsp hen hqx hqs hkx hk63
   refine wp_region_two (T:=fun W => W.cell? ⟨bx,0,none⟩=some (.int .i64 tr)∧W.cell? ⟨bx,1,none⟩=some (.int .i64 id)∧W.cell? ⟨bx,2,none⟩=some (.int .i64 pa)∧W.cell? ⟨bx,3,none⟩=some (.string se)∧W.cell? ⟨bx,4,none⟩=some (.string ho)∧W.cell? ⟨bx,5,none⟩=some (.int .i64 sa)∧W.cell? ⟨bx,6,none⟩=some (.int .i64 du)∧W.cell? ⟨bx,7,none⟩=some (.string no)) (S:=fun W => W.cell? ⟨q,1,none⟩=some (.slice sx k sc)∧W.cell? ⟨q,2,none⟩=some (.slice ex k ec)) (n:=11) (by kernel_rfl) ?_
   rw [← hx0]
   clear hx0
   refine tk 0 42 hT hS ?_
   refine tk 2 44 hT hS ?_
   try simp only [xq]
   refine tk 5 47 hT hS ?_
   refine tk 7 49 hT hS ?_
   try simp only [xq]
   refine two_take 1 (some 43) (v:=?_) rfl rfl (by kernel_rfl) (by kernel_rfl) (by kernel_rfl) (by kernel_rfl) (by decide) (by kernel_rfl) (fun _ _ _ h => h) (Or.inl ⟨by rfl,?hy1⟩) hT hS ?_
   case hy1 => (intro w' hS';go_simp;(try with_reducible rfl))
   try simp only [xq]
   refine two_take 6 (some 48) (v:=?_) rfl rfl (by kernel_rfl) (by kernel_rfl) (by kernel_rfl) (by kernel_rfl) (by decide) (by kernel_rfl) (fun _ _ _ h => h) (Or.inl ⟨by rfl,?hy6⟩) hT hS ?_
   case hy6 => (intro w' hS';go_simp;(try with_reducible rfl))
   try simp only [xq]
   refine two_two 3 8 rfl rfl (by kernel_rfl) ?_ ?_
   · intro K hK
     go_simp
     obtain ⟨z0,hz0⟩:∃ y,y=x0.alloc (.cells #[.int .i64 tr,.int .i64 id,.int .i64 pa,.string se,.string ho,.int .i64 sa,.int .i64 du,.string no] 47 (0,0)):=⟨_,rfl⟩
     rw [← hz0]
     have hbz0:=Zb hz0
     have HAz0:=Zh (show Blk z0 x0.heap.size 47 #[.int .i64 tr,.int .i64 id,.int .i64 pa,.string se,.string ho,.int .i64 sa,.int .i64 du,.string no] by rw [hz0];exact Blk.alloc_new x0 _ _)
     have HPz0:=Zh (HPx0.out.below hbz0)
     clear hz0 hbz0
     have hT1:=HTT.out z0 HPz0.out.chg
     have hS1:=HSS.out z0 HPz0.out.chg
     refine hK.out _ _ hT1 (fun _ _ => hS1) ?_
     clear hK K hT hS
     have hT:=hT1
     have hS:=hS1
     clear hT1 hS1
     try simp only [xq]
     refine two_two 4 8 rfl rfl (by kernel_rfl) ?_ ?_
     · intro K hK
       refine step_append_rows rfl (.tmp 43) (.tmp 45) (by rfl) spRow_len (by omega) under_spans Tryz.info_span rfl (by omega) (show OwnSp z0 w.heap.size (.slice sx k sc) xs from HPz0.out.sp) (by rfl) (m:=[⟨tr,id,pa,se,ho,sa,du,no⟩]) (by rfl) (RdRow.one HAz0.out rfl) (fun a _ => spRow_one a) (by have:=HXN.out;simp;omega) (by have:=HXN.out;simp;omega) (Nat.le_trans HBZ.out HPz0.out.size) ?_
       intro u1 z1 hown hgr hb
       have HPz1:=Zh (HPz0.out.spans hown hgr hb)
       obtain ⟨u1x,u1c,hu⟩:=OwnRow.shape hown
       rw [List.length_append,HXS.out,List.length_singleton] at hu
       subst hu
       clear hown hgr hb
       have hT1:=HTT.out z1 HPz1.out.chg
       have hS1:=HSS.out z1 HPz1.out.chg
       refine hK.out _ _ hT1 (fun _ _ => hS1) ?_
       clear hK K hT hS
       have hT:=hT1
       have hS:=hS1
       clear hT1 hS1
       try simp only [xq]
       refine tk 10 52 hT hS ?_
       try simp only [xq]
       refine two_one 8 rfl (by kernel_rfl) ?_
       intro K hK
       go_simp
       obtain ⟨z2,hz2⟩:∃ y,y=z1.alloc (.cells #[.int .i64 nx] 3 (0,0)):=⟨_,rfl⟩
       rw [← hz2]
       have hbz2:=Zb hz2
       have HIz2:=Zh (show Blk z2 z1.heap.size 3 #[.int .i64 nx] by rw [hz2];exact Blk.alloc_new z1 _ _)
       have HIZ:=Zh (show x0.heap.size≤z1.heap.size from HPz1.out.size)
       have HPz2:=Zh (HPz1.out.below hbz2)
       clear hz2 hbz2
       have hT1:=HTT.out z2 HPz2.out.chg
       have hS1:=HSS.out z2 HPz2.out.chg
       refine hK.out _ _ hT1 (fun _ _ => hS1) ?_
       clear hK K hT hS
       have hT:=hT1
       have hS:=hS1
       clear hT1 hS1
       try simp only [xq]
       refine two_one 9 rfl (by kernel_rfl) ?_
       intro K hK
       refine step_append_rows rfl (.tmp 48) (.tmp 50) (by rfl) iRow_len (by omega) under_ints Tryz.info_int rfl (by omega) (ownI_row (show OwnI z2 w.heap.size (.slice ex k ec) (sgEnds xs) from HPz2.out.en)) (by rfl) (m:=[(nx:Int)]) (by rfl) (RdRow.one HIz2.out rfl) (fun a _ u hu => iRow_one a u hu) (by rw [sgEnds_length];have:=HXN.out;simp;omega) (by rw [sgEnds_length];have:=HXN.out;simp;omega) (Nat.le_trans HBZ.out HPz2.out.size) ?_
       intro u2 z3 hown hgr hb
       have hown2:OwnI z3 w.heap.size u2 (sgEnds (xs++[⟨tr,id,pa,se,ho,sa,du,no⟩])):=by rw [HEE.out];exact ownI_of hown
       have HPz3:=Zh (HPz2.out.ends hown2 hgr hb)
       obtain ⟨u2x,u2c,hu⟩:=OwnRow.shape hown
       rw [List.length_append,sgEnds_length,HXS.out,List.length_singleton] at hu
       subst hu
       clear hown hown2 hgr hb
       have hT1:=HTT.out z3 HPz3.out.chg
       have hS1:=HSS.out z3 HPz3.out.chg
       refine hK.out _ _ hT1 (fun _ _ => hS1) ?_
       clear hK K hT hS
       have hT:=hT1
       have hS:=hS1
       clear hT1 hS1
       try simp only [xq]
       obtain ⟨f1,f2⟩:=HFZ.out z3 HPz3.out.chg
       refine two_one 11 rfl (by kernel_rfl) ?_
       intro K hK
       go_simp
       obtain ⟨v1,hv1⟩:∃ v1,v1=z3.setCell ⟨q,1,none⟩ (.slice u1x (k+1) u1c):=⟨_,rfl⟩
       rw [← hv1]
       have hT1:=HTS.out z3 v1 HPz3.out.chg (by rw [hv1];exact (Chg.refl (fun k => k=q) z3).setCell (p:=⟨q,_,none⟩) (fun _ => rfl) _)
       have f3:v1.frozen? ⟨q,2,none⟩=false:=by rw [hv1];simpa using f2
       have c3:v1.cell? ⟨q,2,none⟩=some (.slice ex k ec):=by rw [hv1];exact (World.cell?_setCell_other _ _ _ _ (by intro e;injection e with _ e _;omega)).trans hS.2
       refine hK.out _ _ hT1 (fun _ e => absurd rfl e) ?_
       have HV1:=Zh hv1
       clear hK K hT hS f1 f2 hv1
       have hT:=hT1
       clear hT1
       try simp only [xq]
       refine two_one 12 rfl (by kernel_rfl) ?_
       intro K hK
       go_simp
       refine hK.out _ _ hT (fun e _ => by exact absurd e (by decide)) ?_
       clear hK K
       try simp only [xq]
       refine two_one 13 rfl (by kernel_rfl) ?_
       intro K hK
       go_simp
       obtain ⟨v2,hv2⟩:∃ v2,v2=v1.setCell ⟨q,2,none⟩ (.slice u2x (k+1) u2c):=⟨_,rfl⟩
       rw [← hv2]
       have hT2:=HTS.out z3 v2 HPz3.out.chg (by rw [hv2,HV1.out];exact ((Chg.refl (fun k => k=q) z3).setCell (p:=⟨q,_,none⟩) (fun _ => rfl) _).setCell (p:=⟨q,_,none⟩) (fun _ => rfl) _)
       have HZZ:=Zh (HFN.out z3 _ _ HPz3.out v2 (by rw [hv2,HV1.out]))
       refine hK.out _ _ hT2 (fun e _ => by exact absurd e (by decide)) ?_
       clear hK K hT hT2 f3 c3 hv2
       try simp only [xq]
       refine two_done (by kernel_rfl) ?_ _
       go_wp2_with fail
       go_roundw
       case rel => exact ⟨k+1,u1x,u2x,u1c,u2c,rfl,by rw [HNXT.out],hkl,HZZ.out⟩
       case measure => have:=HSTEP.out;simp [intOf];omega
     intro K hK
     go_simp
     obtain ⟨z4,hz4⟩:∃ y,y=z0.alloc (.cells #[.int .i64 nx] 3 (0,0)):=⟨_,rfl⟩
     rw [← hz4]
     have hbz4:=Zb hz4
     have HIz4:=Zh (show Blk z4 z0.heap.size 3 #[.int .i64 nx] by rw [hz4];exact Blk.alloc_new z0 _ _)
     have HIZ:=Zh (show x0.heap.size≤z0.heap.size from HPz0.out.size)
     have HPz4:=Zh (HPz0.out.below hbz4)
     have HAz4:=Zh (HAz0.out.below hbz4)
     clear hz4 hbz4
     have hT1:=HTT.out z4 HPz4.out.chg
     have hS1:=HSS.out z4 HPz4.out.chg
     refine hK.out _ _ hT1 (fun _ _ => hS1) ?_
     clear hK K hT hS
     have hT:=hT1
     have hS:=hS1
     clear hT1 hS1
     try simp only [xq]
     refine two_one 4 rfl (by kernel_rfl) ?_
     intro K hK
     refine step_append_rows rfl (.tmp 43) (.tmp 45) (by rfl) spRow_len (by omega) under_spans Tryz.info_span rfl (by omega) (show OwnSp z4 w.heap.size (.slice sx k sc) xs from HPz4.out.sp) (by rfl) (m:=[⟨tr,id,pa,se,ho,sa,du,no⟩]) (by rfl) (RdRow.one HAz4.out rfl) (fun a _ => spRow_one a) (by have:=HXN.out;simp;omega) (by have:=HXN.out;simp;omega) (Nat.le_trans HBZ.out HPz4.out.size) ?_
     intro u1 z5 hown hgr hb
     have HPz5:=Zh (HPz4.out.spans hown hgr hb)
     obtain ⟨u1x,u1c,hu⟩:=OwnRow.shape hown
     rw [List.length_append,HXS.out,List.length_singleton] at hu
     subst hu
     have HIz5:=Zh (HIz4.out.chg (chg_of_grown hgr) (fun e => by have:=HSV.out _ e;have:=HIZ.out;omega))
     clear hown hgr hb
     have hT1:=HTT.out z5 HPz5.out.chg
     have hS1:=HSS.out z5 HPz5.out.chg
     refine hK.out _ _ hT1 (fun _ _ => hS1) ?_
     clear hK K hT hS
     have hT:=hT1
     have hS:=hS1
     clear hT1 hS1
     try simp only [xq]
     refine tk 10 52 hT hS ?_
     try simp only [xq]
     refine two_one 9 rfl (by kernel_rfl) ?_
     intro K hK
     refine step_append_rows rfl (.tmp 48) (.tmp 50) (by rfl) iRow_len (by omega) under_ints Tryz.info_int rfl (by omega) (ownI_row (show OwnI z5 w.heap.size (.slice ex k ec) (sgEnds xs) from HPz5.out.en)) (by rfl) (m:=[(nx:Int)]) (by rfl) (RdRow.one HIz5.out rfl) (fun a _ u hu => iRow_one a u hu) (by rw [sgEnds_length];have:=HXN.out;simp;omega) (by rw [sgEnds_length];have:=HXN.out;simp;omega) (Nat.le_trans HBZ.out HPz5.out.size) ?_
     intro u2 z6 hown hgr hb
     have hown2:OwnI z6 w.heap.size u2 (sgEnds (xs++[⟨tr,id,pa,se,ho,sa,du,no⟩])):=by rw [HEE.out];exact ownI_of hown
     have HPz6:=Zh (HPz5.out.ends hown2 hgr hb)
     obtain ⟨u2x,u2c,hu⟩:=OwnRow.shape hown
     rw [List.length_append,sgEnds_length,HXS.out,List.length_singleton] at hu
     subst hu
     clear hown hown2 hgr hb
     have hT1:=HTT.out z6 HPz6.out.chg
     have hS1:=HSS.out z6 HPz6.out.chg
     refine hK.out _ _ hT1 (fun _ _ => hS1) ?_
     clear hK K hT hS
     have hT:=hT1
     have hS:=hS1
     clear hT1 hS1
     try simp only [xq]
     obtain ⟨f1,f2⟩:=HFZ.out z6 HPz6.out.chg
     refine two_one 11 rfl (by kernel_rfl) ?_
     intro K hK
     go_simp
     obtain ⟨v1,hv1⟩:∃ v1,v1=z6.setCell ⟨q,1,none⟩ (.slice u1x (k+1) u1c):=⟨_,rfl⟩
     rw [← hv1]
     have hT1:=HTS.out z6 v1 HPz6.out.chg (by rw [hv1];exact (Chg.refl (fun k => k=q) z6).setCell (p:=⟨q,_,none⟩) (fun _ => rfl) _)
     have f3:v1.frozen? ⟨q,2,none⟩=false:=by rw [hv1];simpa using f2
     have c3:v1.cell? ⟨q,2,none⟩=some (.slice ex k ec):=by rw [hv1];exact (World.cell?_setCell_other _ _ _ _ (by intro e;injection e with _ e _;omega)).trans hS.2
     refine hK.out _ _ hT1 (fun _ e => absurd rfl e) ?_
     have HV1:=Zh hv1
     clear hK K hT hS f1 f2 hv1
     have hT:=hT1
     clear hT1
     try simp only [xq]
     refine two_one 12 rfl (by kernel_rfl) ?_
     intro K hK
     go_simp
     refine hK.out _ _ hT (fun e _ => by exact absurd e (by decide)) ?_
     clear hK K
     try simp only [xq]
     refine two_one 13 rfl (by kernel_rfl) ?_
     intro K hK
     go_simp
     obtain ⟨v2,hv2⟩:∃ v2,v2=v1.setCell ⟨q,2,none⟩ (.slice u2x (k+1) u2c):=⟨_,rfl⟩
     rw [← hv2]
     have hT2:=HTS.out z6 v2 HPz6.out.chg (by rw [hv2,HV1.out];exact ((Chg.refl (fun k => k=q) z6).setCell (p:=⟨q,_,none⟩) (fun _ => rfl) _).setCell (p:=⟨q,_,none⟩) (fun _ => rfl) _)
     have HZZ:=Zh (HFN.out z6 _ _ HPz6.out v2 (by rw [hv2,HV1.out]))
     refine hK.out _ _ hT2 (fun e _ => by exact absurd e (by decide)) ?_
     clear hK K hT hT2 f3 c3 hv2
     try simp only [xq]
     refine two_done (by kernel_rfl) ?_ _
     go_wp2_with fail
     go_roundw
     case rel => exact ⟨k+1,u1x,u2x,u1c,u2c,rfl,by rw [HNXT.out],hkl,HZZ.out⟩
     case measure => have:=HSTEP.out;simp [intOf];omega
   intro K hK
   go_simp
   obtain ⟨z7,hz7⟩:∃ y,y=x0.alloc (.cells #[.int .i64 nx] 3 (0,0)):=⟨_,rfl⟩
   rw [← hz7]
   have hbz7:=Zb hz7
   have HIz7:=Zh (show Blk z7 x0.heap.size 3 #[.int .i64 nx] by rw [hz7];exact Blk.alloc_new x0 _ _)
   have HIZ:=Zh (show x0.heap.size≤x0.heap.size from HPx0.out.size)
   have HPz7:=Zh (HPx0.out.below hbz7)
   clear hz7 hbz7
   have hT1:=HTT.out z7 HPz7.out.chg
   have hS1:=HSS.out z7 HPz7.out.chg
   refine hK.out _ _ hT1 (fun _ _ => hS1) ?_
   clear hK K hT hS
   have hT:=hT1
   have hS:=hS1
   clear hT1 hS1
   try simp only [xq]
   refine two_one 3 rfl (by kernel_rfl) ?_
   intro K hK
   go_simp
   obtain ⟨z8,hz8⟩:∃ y,y=z7.alloc (.cells #[.int .i64 tr,.int .i64 id,.int .i64 pa,.string se,.string ho,.int .i64 sa,.int .i64 du,.string no] 47 (0,0)):=⟨_,rfl⟩
   rw [← hz8]
   have hbz8:=Zb hz8
   have HAz8:=Zh (show Blk z8 z7.heap.size 47 #[.int .i64 tr,.int .i64 id,.int .i64 pa,.string se,.string ho,.int .i64 sa,.int .i64 du,.string no] by rw [hz8];exact Blk.alloc_new z7 _ _)
   have HPz8:=Zh (HPz7.out.below hbz8)
   have HIz8:=Zh (HIz7.out.below hbz8)
   clear hz8 hbz8
   have hT1:=HTT.out z8 HPz8.out.chg
   have hS1:=HSS.out z8 HPz8.out.chg
   refine hK.out _ _ hT1 (fun _ _ => hS1) ?_
   clear hK K hT hS
   have hT:=hT1
   have hS:=hS1
   clear hT1 hS1
   try simp only [xq]
   refine two_one 4 rfl (by kernel_rfl) ?_
   intro K hK
   refine step_append_rows rfl (.tmp 43) (.tmp 45) (by rfl) spRow_len (by omega) under_spans Tryz.info_span rfl (by omega) (show OwnSp z8 w.heap.size (.slice sx k sc) xs from HPz8.out.sp) (by rfl) (m:=[⟨tr,id,pa,se,ho,sa,du,no⟩]) (by rfl) (RdRow.one HAz8.out rfl) (fun a _ => spRow_one a) (by have:=HXN.out;simp;omega) (by have:=HXN.out;simp;omega) (Nat.le_trans HBZ.out HPz8.out.size) ?_
   intro u1 z9 hown hgr hb
   have HPz9:=Zh (HPz8.out.spans hown hgr hb)
   obtain ⟨u1x,u1c,hu⟩:=OwnRow.shape hown
   rw [List.length_append,HXS.out,List.length_singleton] at hu
   subst hu
   have HIz9:=Zh (HIz8.out.chg (chg_of_grown hgr) (fun e => by have:=HSV.out _ e;have:=HIZ.out;omega))
   clear hown hgr hb
   have hT1:=HTT.out z9 HPz9.out.chg
   have hS1:=HSS.out z9 HPz9.out.chg
   refine hK.out _ _ hT1 (fun _ _ => hS1) ?_
   clear hK K hT hS
   have hT:=hT1
   have hS:=hS1
   clear hT1 hS1
   try simp only [xq]
   refine tk 10 52 hT hS ?_
   try simp only [xq]
   refine two_one 9 rfl (by kernel_rfl) ?_
   intro K hK
   refine step_append_rows rfl (.tmp 48) (.tmp 50) (by rfl) iRow_len (by omega) under_ints Tryz.info_int rfl (by omega) (ownI_row (show OwnI z9 w.heap.size (.slice ex k ec) (sgEnds xs) from HPz9.out.en)) (by rfl) (m:=[(nx:Int)]) (by rfl) (RdRow.one HIz9.out rfl) (fun a _ u hu => iRow_one a u hu) (by rw [sgEnds_length];have:=HXN.out;simp;omega) (by rw [sgEnds_length];have:=HXN.out;simp;omega) (Nat.le_trans HBZ.out HPz9.out.size) ?_
   intro u2 z10 hown hgr hb
   have hown2:OwnI z10 w.heap.size u2 (sgEnds (xs++[⟨tr,id,pa,se,ho,sa,du,no⟩])):=by rw [HEE.out];exact ownI_of hown
   have HPz10:=Zh (HPz9.out.ends hown2 hgr hb)
   obtain ⟨u2x,u2c,hu⟩:=OwnRow.shape hown
   rw [List.length_append,sgEnds_length,HXS.out,List.length_singleton] at hu
   subst hu
   clear hown hown2 hgr hb
   have hT1:=HTT.out z10 HPz10.out.chg
   have hS1:=HSS.out z10 HPz10.out.chg
   refine hK.out _ _ hT1 (fun _ _ => hS1) ?_
   clear hK K hT hS
   have hT:=hT1
   have hS:=hS1
   clear hT1 hS1
   try simp only [xq]
   obtain ⟨f1,f2⟩:=HFZ.out z10 HPz10.out.chg
   refine two_one 11 rfl (by kernel_rfl) ?_
   intro K hK
   go_simp
   obtain ⟨v1,hv1⟩:∃ v1,v1=z10.setCell ⟨q,1,none⟩ (.slice u1x (k+1) u1c):=⟨_,rfl⟩
   rw [← hv1]
   have hT1:=HTS.out z10 v1 HPz10.out.chg (by rw [hv1];exact (Chg.refl (fun k => k=q) z10).setCell (p:=⟨q,_,none⟩) (fun _ => rfl) _)
   have f3:v1.frozen? ⟨q,2,none⟩=false:=by rw [hv1];simpa using f2
   have c3:v1.cell? ⟨q,2,none⟩=some (.slice ex k ec):=by rw [hv1];exact (World.cell?_setCell_other _ _ _ _ (by intro e;injection e with _ e _;omega)).trans hS.2
   refine hK.out _ _ hT1 (fun _ e => absurd rfl e) ?_
   have HV1:=Zh hv1
   clear hK K hT hS f1 f2 hv1
   have hT:=hT1
   clear hT1
   try simp only [xq]
   refine two_one 12 rfl (by kernel_rfl) ?_
   intro K hK
   go_simp
   refine hK.out _ _ hT (fun e _ => by exact absurd e (by decide)) ?_
   clear hK K
   try simp only [xq]
   refine two_one 13 rfl (by kernel_rfl) ?_
   intro K hK
   go_simp
   obtain ⟨v2,hv2⟩:∃ v2,v2=v1.setCell ⟨q,2,none⟩ (.slice u2x (k+1) u2c):=⟨_,rfl⟩
   rw [← hv2]
   have hT2:=HTS.out z10 v2 HPz10.out.chg (by rw [hv2,HV1.out];exact ((Chg.refl (fun k => k=q) z10).setCell (p:=⟨q,_,none⟩) (fun _ => rfl) _).setCell (p:=⟨q,_,none⟩) (fun _ => rfl) _)
   have HZZ:=Zh (HFN.out z10 _ _ HPz10.out v2 (by rw [hv2,HV1.out]))
   refine hK.out _ _ hT2 (fun e _ => by exact absurd e (by decide)) ?_
   clear hK K hT hT2 f3 c3 hv2
   try simp only [xq]
   refine two_done (by kernel_rfl) ?_ _
   go_wp2_with fail
   go_roundw
   case rel => exact ⟨k+1,u1x,u2x,u1c,u2c,rfl,by rw [HNXT.out],hkl,HZZ.out⟩
   case measure => have:=HSTEP.out;simp [intOf];omega
 have hk9:k=l.length:=by omega
 have h9:=HNE.out
 rw [← hk9] at h9
 obtain ⟨pk,hpk⟩:∃ pk,pk=(sgT (l.take k)).length:=⟨_,rfl⟩
 rw [← hpk] at h9 ⊢
 have HB9:=Zh h9
 have HK9:=Zh hk9
 clear hpk h9 hk9
 go_wp2_with fail
 refine (HB9.out wr).mono ?_
 rintro e y1 ⟨rfl,hb1⟩
 have hk1:=HKQ.out.below hb1
 have q0:=hk1.cell 0
 have q1:=hk1.cell 1
 have q2:=hk1.cell 2
 have f0:=hk1.free 0
 have f1:=hk1.free 1
 have f2:=hk1.free 2
 simp only [Zx] at q0 q1 q2
 have hk2:=((hk1.set 0 (.int .i64 n)).set 1 (.slice sx k sc)).set 2 (.slice ex k ec)
 simp only [List.setIfInBounds_toArray,List.set_cons_zero,List.set_cons_succ] at hk2
 have hc2:Chg (fun b => b=q) y1 (((y1.setCell ⟨q,0,none⟩ (.int .i64 n)).setCell ⟨q,1,none⟩ (.slice sx k sc)).setCell ⟨q,2,none⟩ (.slice ex k ec)):=(((Chg.refl (fun b => b=q) y1).setCell (p:=⟨q,_,none⟩) (fun _ => rfl) _).setCell (p:=⟨q,_,none⟩) (fun _ => rfl) _).setCell (p:=⟨q,_,none⟩) (fun _ => rfl) _
 have htk:l.take k=l:=List.take_of_length_le (by rw [HK9.out];exact Nat.le_refl _)
 have hsp:=OwnRow.chg (OwnRow.below HSP.out hb1) hc2 fun b hb e => by
  obtain ⟨c1,e1⟩:=OwnRow.heap HSP.out hb
  exact type_ne (e ▸ e1) HKQ.out (by decide)
 have hen:=OwnI.chg (OwnI.kept HEN.out hb1) hc2 fun b hb e => by
  obtain ⟨c1,e1⟩:=HEN.out.heap hb
  exact type_ne (e ▸ e1) HKQ.out (by decide)
 rw [htk] at hsp hen
 have HRES:=Zh (show OwnSp _ w.heap.size (.slice sx k sc) l∧OwnI _ w.heap.size (.slice ex k ec) (sgEnds l)∧Below w.heap.size w _ from ⟨hsp,hen,(((HB.out.trans (hb1.mono HB.out.size)).setCell (p:=⟨q,0,none⟩) HQZ.out (.int .i64 n)).setCell (p:=⟨q,1,none⟩) HQZ.out (.slice sx k sc)).setCell (p:=⟨q,2,none⟩) HQZ.out (.slice ex k ec)⟩)
 have HK2:=Zh hk2
 clear hb1 hk1 hk2 hc2 htk hsp hen
 go_wp2_with fail
 have r0:=HK2.out.cell 0
 have r1:=HK2.out.cell 1
 have r2:=HK2.out.cell 2
 simp only [Zx] at r0 r1 r2
 refine bodyPost_ret (v:=.tuple #[.agg #[.int .i64 n,.slice sx k sc,.slice ex k ec],.string T,.bool true]) (by simp [results,Tryz.results161,go_sem,r0,r1,r2]) rfl ?_
 exact ⟨_,_,rfl,HRES.out⟩
end
end Go.Proofs.YtdacanghbepjpaaGreatDoor
namespace Go.Proofs.YtdacanghbepjpaaGreatDoor
open Go.RowKit Go.Maps
def cmpN (f n:Nat):Int:=if f<n then -1 else if n<f then 1 else 0
section
variable {w w':World}
set_option maxHeartbeats 2000000 in
theorem isNaN_any (x:Int):Calls Tryz.prog 188 #[.int .i64 x] w fun e w' => e=.returned (.bool false)∧w=w':=by
 have hx:(x != x)=false:=by simp
 go_enter Tryz.func188,Tryz.ntmps188
 go_wp2_with fail
 go_ret
 exact ⟨rfl,rfl⟩
set_option maxHeartbeats 2000000 in
theorem cmpInt_any (f n:Nat):Calls Tryz.prog 164 #[.int .i64 f,.int .i64 n] w fun e w' => e=.returned (.int .i64 (cmpN f n))∧w=w':=by
 have HX:=Zh (fun W:World => isNaN_any (w:=W) (f:Int))
 have HY:=Zh (fun W:World => isNaN_any (w:=W) (n:Int))
 obtain ⟨r,hr⟩:∃ r,r=cmpN f n:=⟨_,rfl⟩
 rw [← hr]
 have HR:=Zh hr
 clear hr
 by_cases h1:f<n
 · have h2:(f:Int)<n:=by omega
   have HV:=Zh (show r=-1 by rw [HR.out];unfold cmpN;rw [if_pos h1])
   go_enter Tryz.func164,Tryz.ntmps164
   go_wp2_with fail
   refine (HX.out w).mono ?_
   rintro e w' ⟨rfl,rfl⟩
   go_wp2_with fail
   refine (HY.out w).mono ?_
   rintro e w' ⟨rfl,rfl⟩
   go_wp2_with fail
   go_ret
   rw [HV.out]
   exact ⟨rfl,rfl⟩
 have h2:¬ (f:Int)<n:=by omega
 by_cases h3:n<f
 · have h4:(f:Int)>n:=by omega
   have HV:=Zh (show r=1 by rw [HR.out];unfold cmpN;rw [if_neg h1,if_pos h3])
   go_enter Tryz.func164,Tryz.ntmps164
   go_wp2_with fail
   refine (HX.out w).mono ?_
   rintro e w' ⟨rfl,rfl⟩
   go_wp2_with fail
   refine (HY.out w).mono ?_
   rintro e w' ⟨rfl,rfl⟩
   go_wp2_with fail
   go_ret
   rw [HV.out]
   exact ⟨rfl,rfl⟩
 have h4:¬ (f:Int)>n:=by omega
 have HV:=Zh (show r=0 by rw [HR.out];unfold cmpN;rw [if_neg h1,if_neg h3])
 go_enter Tryz.func164,Tryz.ntmps164
 go_wp2_with fail
 refine (HX.out w).mono ?_
 rintro e w' ⟨rfl,rfl⟩
 go_wp2_with fail
 refine (HY.out w).mono ?_
 rintro e w' ⟨rfl,rfl⟩
 go_wp2_with fail
 go_ret
 rw [HV.out]
 exact ⟨rfl,rfl⟩
set_option maxHeartbeats 2000000 in
theorem cmpSeg_any (f n:Nat) (sx ex:Option Addr) (sn sc en ec:Nat) :
  Calls Tryz.prog 163 #[.agg #[.int .i64 f,.slice sx sn sc,.slice ex en ec],.int .i64 n] w fun e w' => e=.returned (.int .i64 (cmpN f n))∧Below w.heap.size w w':=by
 have HC:=Zh (fun W:World => cmpInt_any (w:=W) f n)
 obtain ⟨w1,hw1⟩:∃ w1,w1=w.alloc (.cells #[.int .i64 f,.slice sx sn sc,.slice ex en ec] 132 (0,0)):=⟨_,rfl⟩
 have hb1:=Zb hw1
 have HB:=Zh hb1
 have HW:=Zh hw1
 clear hb1 hw1
 go_enter Tryz.func163,Tryz.ntmps163
 go_wp2_with fail
 rw [← HW.out]
 refine (HC.out w1).mono ?_
 rintro e w2 ⟨rfl,rfl⟩
 go_wp2_with fail
 go_ret
 exact ⟨rfl,HB.out⟩
def SegShape (a:SegV):Prop:=∃ (sx ex:Option Addr) (sn sc en ec:Nat),a.sv=.slice sx sn sc∧a.ev=.slice ex en ec
def FindPost (vs:List SegV) (n:Nat) (w:World) (e:Ending) (w':World):Prop :=
 ∃ (r:Nat) (f:Bool),e=.returned (.tuple #[.int .i64 r,.bool f])∧Below w.heap.size w w'∧r≤vs.length∧(∀ (t:Nat) (ht:t<vs.length),t<r→vs[t].first<n)∧(∀ (t:Nat) (ht:t<vs.length),r≤t→¬ vs[t].first<n)
theorem seg_open {lv:Value} {vs:List SegV} (h:RdRow segRow 3 w lv vs) (hsh:∀ a∈vs,SegShape a):∃ x c,lv=.slice x vs.length c∧vs.length≤c∧∀ (j:Nat) (hj:j<vs.length),∃ b off sx ex sn sc en ec,x=some ⟨b,off,none⟩∧b<w.heap.size ∧
  w.cell? ⟨b,off+j*3,none⟩=some (.int .i64 vs[j].first)∧w.cell? ⟨b,off+j*3+1,none⟩=some (.slice sx sn sc)∧w.cell? ⟨b,off+j*3+2,none⟩=some (.slice ex en ec):=by
 obtain ⟨x,c,e,hc,h⟩:=h
 refine ⟨x,c,e,hc,fun j hj => ?_⟩
 obtain ⟨b,off,e,hb,k⟩:=h j hj
 obtain ⟨sx,ex,sn,sc,en,ec,e1,e2⟩:=hsh _ (List.getElem_mem hj)
 have k1:=k 1 vs[j].sv rfl
 have k2:=k 2 vs[j].ev rfl
 rw [e1] at k1
 rw [e2] at k2
 exact ⟨b,off,sx,ex,sn,sc,en,ec,e,hb,k 0 _ rfl,k1,k2⟩
set_option maxHeartbeats 4000000 in
theorem hfind_any (lv:Value) (vs:List SegV) (n:Nat) (h:RdRow segRow 3 w lv vs) (hsh:∀ a∈vs,SegShape a) (hn:vs.length≤1000000) (hmono:∀ (a b:Nat) (ha:a<vs.length) (hb:b<vs.length),a≤b→vs[b].first<n→vs[a].first<n) :
  Calls Tryz.prog 162 #[lv,.int .i64 n,.func (.func 163) #[] #[]] w (FindPost vs n w):=by
 obtain ⟨x,c,rfl,hcap,hel⟩:=seg_open h hsh
 have Hel:=Zh hel
 have Hmono:=Zh hmono
 obtain ⟨m0,hm0⟩:∃ m0,m0=vs.length:=⟨_,rfl⟩
 rw [← hm0] at hn ⊢
 have HM:=Zh hm0
 clear hel hmono h hsh hcap hm0
 go_enter Tryz.func162,Tryz.ntmps162
 go_wp2_with fail
 go_loopw [9,10,11] (fun v9 v10 _ wr => ∃ i j:Nat,v9=.int .i64 i∧v10=.int .i64 j∧i≤j∧j≤m0∧Below w.heap.size w wr∧(∀ (t:Nat) (ht:t<vs.length),t<i→vs[t].first<n)∧(∀ (t:Nat) (ht:t<vs.length),j≤t→¬ vs[t].first<n)) (fun v9 v10 _ _ => (intOf v10).toNat-(intOf v9).toNat)
 case atStart => exact ⟨0,m0,rfl,rfl,Nat.zero_le _,Nat.le_refl _,Below.refl _ _,fun t _ h => absurd h (by omega),fun t ht h => absurd ht (by have:=HM.out;omega)⟩
 case round =>
 obtain ⟨i,j,rfl,rfl,hij,hjn,hbe,hlo,hhi⟩:=hrel
 have Hbe:=Zh hbe
 have Hlo:=Zh hlo
 have Hhi:=Zh hhi
 clear hbe hlo hhi
 by_cases hlt:i<j
 · obtain ⟨m,hm⟩:∃ m,m=(i+j) / 2:=⟨_,rfl⟩
   have hmi:i≤m:=by omega
   have hmj:m<j:=by omega
   have hml:m<vs.length:=by have:=HM.out;omega
   obtain ⟨b,off,sx,ex,sn,sc,en,ec,rfl,hb,c0,c1,c2⟩:=Hel.out m hml
   obtain ⟨f,hf⟩:∃ f,f=vs[m].first:=⟨_,rfl⟩
   rw [← hf] at c0
   have d0:=(Hbe.out.cell (p:=⟨b,off+m*3,none⟩) hb).trans c0
   have d1:=(Hbe.out.cell (p:=⟨b,off+m*3+1,none⟩) hb).trans c1
   have d2:=(Hbe.out.cell (p:=⟨b,off+m*3+2,none⟩) hb).trans c2
   have HF:=Zh hf
   have HML:=Zh hml
   have hsh:((i:Int)+j) / 2=m:=by omega
   have hm0:(0:Int)≤m:=by omega
   have hm1:(m:Int)<m0:=by omega
   have HCF:=Zh (fun W:World => cmpSeg_any (w:=W) f n sx ex sn sc en ec)
   clear c0 c1 c2 hf hm
   go_wp2_with fail
   refine (HCF.out wr).mono ?_
   rintro e w2 ⟨rfl,hb2⟩
   have Hb2:=Zh (Hbe.out.trans (hb2.mono Hbe.out.size))
   clear hb2 d0 d1 d2
   by_cases hc:f<n
   · have hcm:cmpN f n=-1:=by unfold cmpN;rw [if_pos hc]
     rw [hcm]
     have HCC:=Zh hc
     clear hc hcm
     go_wp2_with fail
     go_roundw
     case rel => exact ⟨m+1,j,by go_num,rfl,by omega,hjn,Hb2.out,fun t ht h => Hmono.out t m ht HML.out (by omega) (by rw [← HF.out];exact HCC.out),Hhi.out⟩
     case measure => simp [intOf];omega
   have hcm:¬ cmpN f n<0:=by unfold cmpN;rw [if_neg hc];split <;> omega
   obtain ⟨cv,hcv⟩:∃ cv,cv=cmpN f n:=⟨_,rfl⟩
   rw [← hcv] at hcm ⊢
   have HCC:=Zh hc
   clear hc hcv
   go_wp2_with fail
   go_roundw
   case rel => exact ⟨i,m,rfl,rfl,hmi,by omega,Hb2.out,Hlo.out,fun t ht h hq => by
    have:=Hmono.out m t HML.out ht h hq
    rw [← HF.out] at this
    exact HCC.out this⟩
   case measure => simp [intOf];omega
 obtain rfl:i=j:=by omega
 have hge:¬ (i:Int)<i:=by omega
 by_cases hin:i<m0
 · obtain ⟨b,off,sx,ex,sn,sc,en,ec,rfl,hb,c0,c1,c2⟩:=Hel.out i (by have:=HM.out;omega)
   obtain ⟨f,hf⟩:∃ f,f=vs[i]'(by have:=HM.out;omega):=⟨_,rfl⟩
   rw [← hf] at c0
   have d0:=(Hbe.out.cell (p:=⟨b,off+i*3,none⟩) hb).trans c0
   have d1:=(Hbe.out.cell (p:=⟨b,off+i*3+1,none⟩) hb).trans c1
   have d2:=(Hbe.out.cell (p:=⟨b,off+i*3+2,none⟩) hb).trans c2
   have HCF:=Zh (fun W:World => cmpSeg_any (w:=W) f.first n sx ex sn sc en ec)
   have hm0:(0:Int)≤i:=by omega
   have hm1:(i:Int)<m0:=by omega
   obtain ⟨cv,hcv⟩:∃ cv,cv=cmpN f.first n:=⟨_,rfl⟩
   rw [← hcv] at HCF
   clear c0 c1 c2 hf hcv
   go_wp2_with fail
   refine (HCF.out wr).mono ?_
   rintro e w2 ⟨rfl,hb2⟩
   have Hb2:=Zh (Hbe.out.trans (hb2.mono Hbe.out.size))
   clear hb2 d0 d1 d2
   go_wp2_with fail
   go_ret2
   unfold FindPost
   exact ⟨i,cv == 0,rfl,Hb2.out,by have:=HM.out;omega,Hlo.out,Hhi.out⟩
 have hni:¬ (i:Int)<m0:=by omega
 go_wp2_with fail
 go_ret2
 unfold FindPost
 exact ⟨i,false,rfl,Hbe.out,by have:=HM.out;omega,Hlo.out,Hhi.out⟩
end
end Go.Proofs.YtdacanghbepjpaaGreatDoor
namespace Go.Proofs.YtdacanghbepjpaaGreatDoor
open Go.RowKit Go.Maps
open Dsk
def came (l:List Sg) (ns:List Str):List Sg:=l.filter fun a => decide (ln a.first∈ns)
section
variable {l:List Sg} {ns:List Str} {a:Sg} {x:Str}
theorem came_nil (l:List Sg):came l []=[]:=by unfold came;simp
theorem came_other (h:∀ b∈l,ln b.first≠x):came l (ns++[x])=came l ns:=by
 unfold came
 refine List.filter_congr fun b hb => ?_
 have:=h b hb
 simp [this]
theorem came_all (h:∀ b∈l,ln b.first∈ns):came l ns=l:=by
 unfold came
 exact List.filter_eq_self.2 fun b hb => by simpa using h b hb
theorem came_sub {b:Sg} (h:b∈came l ns):b∈l:=by
 unfold came at h
 exact (List.mem_filter.1 h).1
theorem came_append (l1 l2:List Sg):came (l1++l2) ns=came l1 ns++came l2 ns:=by unfold came;rw [List.filter_append]
theorem came_rise (hp:l.Pairwise fun a b => a.first<b.first):(came l ns).Pairwise fun a b => a.first<b.first:=by
 unfold came
 exact hp.sublist List.filter_sublist
theorem came_log (hp:l.Pairwise fun a b => a.first<b.first) (ha:a∈l) (hx:ln a.first ∉ ns) {r:Nat} (hr:r≤(came l ns).length)
  (h1:∀ (t:Nat) (ht:t<(came l ns).length),t<r→(came l ns)[t].first<a.first) (h2:∀ (t:Nat) (ht:t<(came l ns).length),r≤t→¬ (came l ns)[t].first<a.first) :
  came l (ns++[ln a.first])=(came l ns).take r++a::(came l ns).drop r:=by
 obtain ⟨l1,l2,rfl⟩:=List.append_of_mem ha
 rw [List.pairwise_append,List.pairwise_cons] at hp
 obtain ⟨hp1,⟨hp2,hp3⟩,hp4⟩:=hp
 have hl1:∀ b∈l1,b.first<a.first:=fun b hb => hp4 b hb a (by simp)
 have e0:came (l1++a::l2) ns=came l1 ns++came l2 ns:=by
  rw [came_append]
  congr 1
  unfold came
  rw [List.filter_cons,if_neg (by simpa using hx)]
 have f1:came l1 (ns++[ln a.first])=came l1 ns:=came_other fun b hb e => by have:=hl1 b hb;have:=ln_inj e;omega
 have f2:came l2 (ns++[ln a.first])=came l2 ns:=came_other fun b hb e => by have:=hp2 b hb;have:=ln_inj e;omega
 have e1:came (l1++a::l2) (ns++[ln a.first])=came l1 ns++a::came l2 ns:=by
  rw [came_append,f1]
  congr 1
  rw [show came (a::l2) (ns++[ln a.first])=a::came l2 (ns++[ln a.first]) by unfold came;rw [List.filter_cons,if_pos (by simp)],f2]
 have hrl:r=(came l1 ns).length:=by
  rcases Nat.lt_trichotomy r (came l1 ns).length with h | h | h
  · exfalso
    have hlt:r<(came (l1++a::l2) ns).length:=by rw [e0,List.length_append];omega
    refine h2 r hlt (Nat.le_refl _) ?_
    have:(came (l1++a::l2) ns)[r]∈l1:=by
     rw [List.getElem_of_eq e0,List.getElem_append_left h]
     exact came_sub (List.getElem_mem h)
    exact hl1 _ this
  · exact h
  exfalso
  have hlt:(came l1 ns).length<(came (l1++a::l2) ns).length:=by omega
  have hk:=h1 _ hlt h
  have:(came (l1++a::l2) ns)[(came l1 ns).length]∈l2:=by
   rw [List.getElem_of_eq e0,List.getElem_append_right (Nat.le_refl _)]
   exact came_sub (List.getElem_mem _)
  have:=hp2 _ this
  omega
 rw [e1,e0,hrl,List.take_left,List.drop_left]
theorem ins_get {α:Type} (l:List α) (x:α) {i:Nat} (hi:i≤l.length) (k:Nat) (hk:k<(l.take i++x::l.drop i).length) :
  (k=i∧(l.take i++x::l.drop i)[k]=x)∨∃ j,∃ hj:j<l.length,(l.take i++x::l.drop i)[k]=l[j]∧((k<i∧j=k)∨(i<k∧j+1=k)):=by
 have ht:(l.take i).length=i:=by rw [List.length_take];omega
 rcases Nat.lt_trichotomy k i with h | h | h
 · refine .inr ⟨k,by omega,?_,.inl ⟨h,rfl⟩⟩
   rw [List.getElem_append_left (by omega),List.getElem_take]
 · subst h
   refine .inl ⟨rfl,?_⟩
   rw [List.getElem_append_right (by omega)]
   simp [ht]
 have hl:k-1<l.length:=by simp at hk;omega
 refine .inr ⟨k-1,hl,?_,.inr ⟨h,by omega⟩⟩
 rw [List.getElem_append_right (by omega)]
 obtain ⟨m,rfl⟩:∃ m,k=i+m+1:=⟨k-i-1,by omega⟩
 simp [ht,show i+m+1-i=m+1 by omega]
end
section
variable {w w':World} {B:Nat} {lv u:Value} {vs:List SegV} {c:List Sg} {x:SegV} {a:Sg}
theorem LogRows.insert {S:Nat→Prop} (hr:LogRows B w lv vs c) {i:Nat} (hi:i≤c.length) (ho:OwnRow segRow 3 132 w' B u (vs.take i++x::vs.drop i)) (hc:Chg S w w') (hx:SegAt B w x a)
  (hnx:∀ b,b∈segBlks x→¬ S b) (hnv:∀ b,b∈blks vs→¬ S b) (hax:∀ b,b∈segBlks x→b ∉ blks vs):LogRows B w' u (vs.take i++x::vs.drop i) (c.take i++a::c.drop i):=by
 have hl:=hr.len
 have hiv:i≤vs.length:=by omega
 refine ⟨ho,by simp;omega,fun k hk hk' => ?_,fun k1 k2 h1 h2 hne b hb1 hb2 => ?_⟩
 · rcases ins_get vs x hiv k hk with ⟨e1,e2⟩ | ⟨j,hj,e2,e3⟩
   · rcases ins_get c a hi k hk' with ⟨_,f2⟩ | ⟨j',hj',f2,f3⟩
     · rw [e2,f2]
       exact hx.chg hc fun b hb e => hnx b hb e
     omega
   rcases ins_get c a hi k hk' with ⟨f1,_⟩ | ⟨j',hj',f2,f3⟩
   · omega
   obtain rfl:j=j':=by omega
   rw [e2,f2]
   refine (hr.each j hj hj').chg hc fun b hb e => ?_
   exact hnv b (mem_blks.2 ⟨j,hj,mem_segBlks.1 hb⟩) e
 rcases ins_get vs x hiv k1 h1 with ⟨e1,e2⟩ | ⟨j1,hj1,e2,e3⟩
 · rcases ins_get vs x hiv k2 h2 with ⟨f1,f2⟩ | ⟨j2,hj2,f2,f3⟩
   · omega
   rw [e2] at hb1
   rw [f2] at hb2
   exact hax b hb1 (mem_blks.2 ⟨j2,hj2,mem_segBlks.1 hb2⟩)
 rcases ins_get vs x hiv k2 h2 with ⟨f1,f2⟩ | ⟨j2,hj2,f2,f3⟩
 · rw [e2] at hb1
   rw [f2] at hb2
   exact hax b hb2 (mem_blks.2 ⟨j1,hj1,mem_segBlks.1 hb1⟩)
 rw [e2] at hb1
 rw [f2] at hb2
 exact hr.apart j1 j2 hj1 hj2 (by omega) b hb1 hb2
theorem LogRows.blkTy (hr:LogRows B w lv vs c) {b:Nat} (hb:b∈blks vs) {cs:Array Value} {ty:TypeId} (h:w.heap[b]?=some (.cells cs ty (0,0))) (h1:ty≠47) (h2:ty≠3):False:=by
 obtain ⟨i,hi,hk⟩:=mem_blks.1 hb
 have hs:=hr.each i hi (hr.len ▸ hi)
 rcases hk with hk | hk
 · obtain ⟨c2,e2⟩:=OwnRow.heap hs.spans hk
   exact type_ne h e2 h1
 obtain ⟨c2,e2⟩:=hs.ends.heap hk
 exact type_ne h e2 h2
theorem SegAt.blkTy (hx:SegAt B w x a) {b:Nat} (hb:b∈segBlks x) {cs:Array Value} {ty:TypeId} (h:w.heap[b]?=some (.cells cs ty (0,0))) (h1:ty≠47) (h2:ty≠3):False:=by
 rcases mem_segBlks.1 hb with hk | hk
 · obtain ⟨c2,e2⟩:=OwnRow.heap hx.spans hk
   exact type_ne h e2 h1
 obtain ⟨c2,e2⟩:=hx.ends.heap hk
 exact type_ne h e2 h2
theorem blks_ins {i b:Nat} (hb:b∈blks (vs.take i++x::vs.drop i)):b∈blks vs∨b∈segBlks x:=by
 unfold blks at hb ⊢
 rw [List.flatMap_append,List.flatMap_cons,List.mem_append,List.mem_append] at hb
 rcases hb with hb | hb | hb
 · obtain ⟨s,hs,hb⟩:=List.mem_flatMap.1 hb
   exact .inl (List.mem_flatMap.2 ⟨s,List.mem_of_mem_take hs,hb⟩)
 · exact .inr hb
 obtain ⟨s,hs,hb⟩:=List.mem_flatMap.1 hb
 exact .inl (List.mem_flatMap.2 ⟨s,List.mem_of_mem_drop hs,hb⟩)
end
theorem LSt.name_is {d:Dk} {l:List Sg} {t:Str} {s:Nat} {dr:Files} (h:LSt d l t s dr) {x:Str} (hx:x∈names d.files) :
  (∃ a∈l,x=ln a.first)∨((x=lnew∨x.head?≠some 108)∧∀ a∈l,ln a.first≠x):=by
 obtain ⟨p,hp,rfl⟩:=List.mem_map.1 hx
 have hdr:p∈dr→(p.1=lnew∨p.1.head?≠some 108)∧∀ a∈l,ln a.first≠p.1:=fun h1 => ⟨h.dr p h1,fun a _ e => h.dr.ne p h1 _ e.symm⟩
 rcases h.files with ⟨rfl,_,hpm⟩ | ⟨init,a,rfl,hpm⟩
 · exact .inr (hdr (hpm.mem_iff.1 hp))
 have:=hpm.mem_iff.1 hp
 rcases List.mem_append.1 this with h1 | h1
 · obtain ⟨b,hb,rfl⟩:=List.mem_map.1 h1
   exact .inl ⟨b,List.mem_append_left _ hb,rfl⟩
 rcases List.mem_cons.1 h1 with rfl | h1
 · exact .inl ⟨a,by simp,rfl⟩
 exact .inr (hdr h1)
open Classical in
noncomputable def tornOf (l:List Sg) (t:Str) (a:Sg):Str:=if l.getLast?=some a then t else []
theorem LSt.file_of {d:Dk} {l:List Sg} {t:Str} {s:Nat} {dr:Files} (h:LSt d l t s dr) {a:Sg} (ha:a∈l):∃ s',get d.files (ln a.first)=some ⟨sgT a.spans++tornOf l t a,s'⟩:=by
 rcases List.eq_nil_or_concat l with rfl | ⟨init,b,rfl⟩
 · cases ha
 rw [List.concat_eq_append] at h ha ⊢
 unfold tornOf
 rw [List.getLast?_concat]
 by_cases e:b=a
 · subst e
   rw [if_pos rfl]
   exact ⟨_,h.get_last⟩
 rw [if_neg (fun k => e (by injection k))]
 have hi:a∈init:=by
  rcases List.mem_append.1 ha with h1 | h1
  · exact h1
  exact absurd (List.mem_singleton.1 h1).symm e
 rw [List.append_nil]
 exact ⟨_,h.get_full hi⟩
theorem LSt.torn_of {d:Dk} {l:List Sg} {t:Str} {s:Nat} {dr:Files} (h:LSt d l t s dr) (a:Sg):Frm.nextAt (tornOf l t a)=none:=by
 unfold tornOf
 split
 · exact h.torn
 exact fnil_none
theorem LSt.name_in {d:Dk} {l:List Sg} {t:Str} {s:Nat} {dr:Files} (h:LSt d l t s dr) {a:Sg} (ha:a∈l):ln a.first∈names d.files:=by
 rcases h.files with ⟨rfl,_,hpm⟩ | ⟨init,b,rfl,hpm⟩
 · cases ha
 refine List.mem_map.2 ?_
 rcases List.mem_append.1 ha with h1 | h1
 · exact ⟨full a,hpm.mem_iff.2 (List.mem_append_left _ (List.mem_map.2 ⟨a,h1,rfl⟩)),rfl⟩
 obtain rfl:=List.mem_singleton.1 h1
 exact ⟨lastF a t s,hpm.mem_iff.2 (List.mem_append_right _ List.mem_cons_self),rfl⟩
theorem LSt.read_of {d:Dk} {l:List Sg} {t:Str} {s:Nat} {dr:Files} (h:LSt d l t s dr) (hoff:d.off=false) {a:Sg} (ha:a∈l):d.read (ln a.first)=(sgT a.spans++tornOf l t a,0):=by
 obtain ⟨s',hs⟩:=h.file_of ha
 unfold Dk.read
 rw [hoff,hs]
 rfl
end Go.Proofs.YtdacanghbepjpaaGreatDoor
namespace Go.Proofs.YtdacanghbepjpaaGreatDoor
open Go.RowKit Go.Maps
open Dsk
noncomputable def fileT (l:List Sg) (t:Str) (a:Sg):ByteArray:=⟨(sgT a.spans++tornOf l t a).toArray⟩
def OpInv (w:World) (bd q:Nat) (st:Int) (l:List Sg) (t:Str) (ns:List Str) (tv:Value) (wr:World):Prop :=
 ∃ lv vs,Blk wr q 136 #[.pointer (some ⟨bd,0,none⟩),.int .i64 st,.bool false,lv]∧LogRows w.heap.size wr lv vs (came l ns)∧OwnRow strRow 1 9 wr w.heap.size tv ((came l ns).map (fileT l t))∧Below w.heap.size w wr
structure PendO (B:Nat) (x0 V:World) (lv tv:Value) (vs:List SegV) (ts:List ByteArray) (r:Nat) (xv:SegV) (xt:ByteArray) (lu tu:Option Value):Prop where
 chg:Chg (fun k => lv.ownBlock=some k∨tv.ownBlock=some k) x0 V
 seg:match lu with
  | none => OwnRow segRow 3 132 V B lv vs
  | some u => OwnRow segRow 3 132 V B u (vs.take r++xv::vs.drop r)∧∀ k,u.ownBlock=some k→lv.ownBlock=some k∨x0.heap.size≤k
 str:match tu with
  | none => OwnRow strRow 1 9 V B tv ts
  | some u => OwnRow strRow 1 9 V B u (ts.take r++xt::ts.drop r)∧∀ k,u.ownBlock=some k→tv.ownBlock=some k∨x0.heap.size≤k
section
variable {B:Nat} {x0 V V' w wr:World} {lv tv u:Value} {vs:List SegV} {ts:List ByteArray} {r:Nat} {xv:SegV} {xt:ByteArray} {lu tu:Option Value}
theorem sg_str_ne {B1 B2:Nat} {u1 u2:Value} {ys:List SegV} {zs:List ByteArray} {W:World} (h1:OwnRow segRow 3 132 W B1 u1 ys) (h2:OwnRow strRow 1 9 W B2 u2 zs) {k:Nat} (e1:u1.ownBlock=some k) (e2:u2.ownBlock=some k):False:=by
 obtain ⟨c1,g1⟩:=OwnRow.heap h1 e1
 obtain ⟨c2,g2⟩:=OwnRow.heap h2 e2
 exact type_ne g1 g2 (by decide)
theorem PendO.start (h1:OwnRow segRow 3 132 x0 B lv vs) (h2:OwnRow strRow 1 9 x0 B tv ts):PendO B x0 x0 lv tv vs ts r xv xt none none:=⟨Chg.refl _ _,h1,h2⟩
theorem PendO.size (h:PendO B x0 V lv tv vs ts r xv xt lu tu):x0.heap.size≤V.heap.size:=h.chg.size
theorem PendO.below (h:PendO B x0 V lv tv vs ts r xv xt lu tu) (y:Below V.heap.size V V'):PendO B x0 V' lv tv vs ts r xv xt lu tu:=by
 obtain ⟨h1,h2,h3⟩:=h
 refine ⟨h1.trans (Chg.of_below y),?_,?_⟩
 · cases lu with
   | none => exact OwnRow.below h2 y
   | some u => exact ⟨OwnRow.below h2.1 y,h2.2⟩
 cases tu with
 | none => exact OwnRow.below h3 y
 | some u => exact ⟨OwnRow.below h3.1 y,h3.2⟩
theorem PendO.segs (h:PendO B x0 V lv tv vs ts r xv xt none tu) (ho:OwnRow segRow 3 132 V' B u (vs.take r++xv::vs.drop r)) (hg:V.grownBy V' lv.ownBlock) (hb:u.ownBlock=lv.ownBlock∨u.ownBlock=some V.heap.size):PendO B x0 V' lv tv vs ts r xv xt (some u) tu:=by
 obtain ⟨h1,h2,h3⟩:=h
 have hc:=chg_of_grown hg
 refine ⟨h1.trans (Chg.mono hc fun k _ e => .inl e),⟨ho,fun k hk => ?_⟩,?_⟩
 · rcases hb with hb | hb
   · exact .inl (hb ▸ hk)
   rw [hb] at hk;injection hk with hk;exact .inr (by rw [← hk];exact h1.size)
 cases tu with
 | none => exact OwnRow.chg h3 hc fun k hk e => sg_str_ne h2 h3 e hk
 | some u2 => exact ⟨OwnRow.chg h3.1 hc fun k hk e => sg_str_ne h2 h3.1 e hk,h3.2⟩
theorem PendO.strs (h:PendO B x0 V lv tv vs ts r xv xt lu none) (ho:OwnRow strRow 1 9 V' B u (ts.take r++xt::ts.drop r)) (hg:V.grownBy V' tv.ownBlock) (hb:u.ownBlock=tv.ownBlock∨u.ownBlock=some V.heap.size):PendO B x0 V' lv tv vs ts r xv xt lu (some u):=by
 obtain ⟨h1,h2,h3⟩:=h
 have hc:=chg_of_grown hg
 refine ⟨h1.trans (Chg.mono hc fun k _ e => .inr e),?_,⟨ho,fun k hk => ?_⟩⟩
 · cases lu with
   | none => exact OwnRow.chg h2 hc fun k hk e => sg_str_ne h2 h3 hk e
   | some u2 => exact ⟨OwnRow.chg h2.1 hc fun k hk e => sg_str_ne h2.1 h3 hk e,h2.2⟩
 rcases hb with hb | hb
 · exact .inl (hb ▸ hk)
 rw [hb] at hk;injection hk with hk;exact .inr (by rw [← hk];exact h1.size)
theorem OpInv.put {bd q:Nat} {st:Int} {l:List Sg} {t:Str} {ns:List Str} {a:Sg} {lu tu:Value} (hq:w.heap.size≤q) (hk:Blk x0 q 136 #[.pointer (some ⟨bd,0,none⟩),.int .i64 st,.bool false,lv])
  (hr:LogRows w.heap.size x0 lv vs (came l ns)) (hx:SegAt w.heap.size x0 xv a) (hb:Below w.heap.size w x0) (hrc:r≤(came l ns).length)
  (hnew:came l (ns++[ln a.first])=(came l ns).take r++a::(came l ns).drop r)
  (hnx:∀ b,b∈segBlks xv→b ∉ blks vs) (ht0:OwnRow strRow 1 9 x0 w.heap.size tv ((came l ns).map (fileT l t)))
  (hp:PendO w.heap.size x0 V lv tv vs ((came l ns).map (fileT l t)) r xv (fileT l t a) (some lu) (some tu)):OpInv w bd q st l t (ns++[ln a.first]) tu (V.setCell ⟨q,3,none⟩ lu):=by
 obtain ⟨hc,⟨hs,hsb⟩,⟨ht,htb⟩⟩:=hp
 have hql:=hk.lt
 have hqs:∀ b,lv.ownBlock=some b∨tv.ownBlock=some b→b≠q∧w.heap.size≤b:=fun b hb => by
  rcases hb with hb | hb
  · obtain ⟨c1,e1⟩:=OwnRow.heap hr.row hb
    exact ⟨fun e => type_ne (e ▸ e1) hk (by decide),(OwnRow.lt hr.row b hb).1⟩
  obtain ⟨c1,e1⟩:=OwnRow.heap ht0 hb
  exact ⟨fun e => type_ne (e ▸ e1) hk (by decide),(OwnRow.lt ht0 b hb).1⟩
 have hno:∀ b,(b∈segBlks xv∨b∈blks vs)→¬ (lv.ownBlock=some b∨tv.ownBlock=some b)∧b≠q:=fun b hb => by
  refine ⟨fun e => ?_,fun e => ?_⟩
  · rcases e with e | e
    · obtain ⟨c1,e1⟩:=OwnRow.heap hr.row e
      rcases hb with hb | hb
      · exact hx.blkTy hb e1 (by decide) (by decide)
      exact hr.blkTy hb e1 (by decide) (by decide)
    obtain ⟨c1,e1⟩:=OwnRow.heap ht0 e
    rcases hb with hb | hb
    · exact hx.blkTy hb e1 (by decide) (by decide)
    exact hr.blkTy hb e1 (by decide) (by decide)
  subst e
  rcases hb with hb | hb
  · exact hx.blkTy hb hk (by decide) (by decide)
  exact hr.blkTy hb hk (by decide) (by decide)
 have hk2:=hk.chg hc fun e => (hqs q e).1 rfl
 have hc2:Chg (fun b => b=q) V (V.setCell ⟨q,3,none⟩ lu):=(Chg.refl (fun b => b=q) V).setCell (p:=⟨q,3,none⟩) (fun _ => rfl) _
 have hins:=hr.insert hrc hs hc hx (fun b hb => (hno b (.inl hb)).1) (fun b hb => (hno b (.inr hb)).1) hnx
 refine ⟨lu,vs.take r++xv::vs.drop r,?_,?_,?_,?_⟩
 · exact hk2.set 3 lu
 · rw [hnew]
   refine hins.chg hc2 fun b hb e => ?_
   rcases hb with hb | hb
   · rcases hsb b hb with h1 | h1
     · exact (hqs b (.inl h1)).1 e
     omega
   rcases blks_ins hb with h1 | h1
   · exact (hno b (.inr h1)).2 e
   exact (hno b (.inl h1)).2 e
 · rw [hnew,List.map_append,List.map_cons,List.map_take,List.map_drop]
   refine OwnRow.chg ht hc2 fun b hb e => ?_
   rcases htb b hb with h1 | h1
   · exact (hqs b (.inr h1)).1 e
   omega
 refine hb.trans ?_
 have hbl:Below w.heap.size x0 V:=hc.below hb.size fun b hb' e => by have:=(hqs b e).2;omega
 exact hbl.setCell (p:=⟨q,3,none⟩) hq lu
end
end Go.Proofs.YtdacanghbepjpaaGreatDoor
namespace Go.Proofs.YtdacanghbepjpaaGreatDoor
open Dsk
theorem chained_at:∀ (l:List Sg),Chained l→∀ (i:Nat) (hi:i+1<l.length),l[i].spans≠[]∧l[i+1].first=l[i].next
 | [],_,i,hi => by simp at hi
 | [a],_,i,hi => by simp at hi
 | a::b::r,h,0,_ => ⟨h.1,h.2.1⟩
 | a::b::r,h,i+1,hi => by
  have:=chained_at (b::r) h.2.2 i (by simpa using hi)
  simpa using this
theorem tornOf_none {l:List Sg} (hc:Chained l) {t:Str} {i:Nat} (hi:i+1<l.length):tornOf l t (l[i]'(by omega))=[]:=by
 unfold tornOf
 rw [if_neg]
 intro e
 have hp:=(chained_rise _ hc).imp fun h => h.1
 rw [List.getLast?_eq_getElem?,List.getElem?_eq_getElem (by omega)] at e
 injection e with e
 have h1:=List.pairwise_iff_getElem.1 hp i (l.length-1) (by omega) (by omega) (by omega)
 rw [e] at h1
 exact Nat.lt_irrefl _ h1
theorem tornOf_last {l:List Sg} {t:Str} (hl:l≠[]):tornOf l t (l[l.length-1]'(by have:=List.length_pos_iff.2 hl;omega))=t:=by
 unfold tornOf
 rw [if_pos]
 rw [List.getLast?_eq_getElem?,List.getElem?_eq_getElem]
end Go.Proofs.YtdacanghbepjpaaGreatDoor
