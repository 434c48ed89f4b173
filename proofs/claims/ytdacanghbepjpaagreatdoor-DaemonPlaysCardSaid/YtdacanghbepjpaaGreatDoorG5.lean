/- A host's log in memory: a segment more, a record more. A host's log: a new segment is begun: walked. A host's log: a record that may not be; a record behind the last segment's: walked. A host's log: a record that begins a segment: walked. A host's log: a new segment is begun when asked for: walked. A host's log: its first segment leaves its row: the copy is walked. A host's log: so many segments stay: walked. -/
import Derived.Test.YtdacanghbepjpaaGreatDoorG3
import Derived.Test.YtdacanghbepjpaaGreatDoorG4
import Derived.Lib.AppendZeros
namespace Go.Proofs.YtdacanghbepjpaaGreatDoor
set_option linter.unusedSimpArgs false
set_option linter.unusedVariables false
set_option maxRecDepth 100000
open Go.RowKit Go.Maps
open Dsk
section
variable {w0 w w':World} {X H S:Nat→Prop} {v lv u:Value} {d d':Dk} {j B:Nat} {h:Hl} {vs:List SegV} {l:List Sg} {s:SegV}
theorem OwnRow.heap {α:Type} {row:α→List Value} {z:Nat} {e:TypeId} {l:List α} (h:OwnRow row z e w B v l) {k:Nat} (hk:v.ownBlock=some k):∃ cs,w.heap[k]?=some (.cells cs e (0,0)):=by
 rcases h.2 with ⟨e,_⟩ | ⟨g,cap,cur,e,_,hh,_⟩
 · rw [e] at hk;cases hk
 · rw [e] at hk
   injection hk with hk
   have hk:g=k:=hk
   subst hk
   exact ⟨_,hh⟩
theorem OwnI.heap {l:List Int} (h:OwnI w B v l) {k:Nat} (hk:v.ownBlock=some k):∃ cs,w.heap[k]?=some (.cells cs 3 (0,0)):=by
 rcases h.2 with ⟨e,_⟩ | ⟨g,cap,cur,e,_,hh,_⟩
 · rw [e] at hk;cases hk
 · rw [e] at hk
   injection hk with hk
   have hk:g=k:=hk
   subst hk
   exact ⟨_,hh⟩
theorem type_ne {k:Nat} {c1 c2:Array Value} {t1 t2:TypeId} (h1:w.heap[k]?=some (.cells c1 t1 (0,0))) (h2:w.heap[k]?=some (.cells c2 t2 (0,0))) (hne:t1≠t2):False:=by
 rw [h1] at h2
 injection h2 with h2
 injection h2 with _ h2 _
 exact hne h2
theorem LogRows.rowNe (hr:LogRows B w lv vs l) {k:Nat} (h1:lv.ownBlock=some k):k ∉ blks vs:=fun h2 => by
 obtain ⟨c1,e1⟩:=hr.row.heap h1
 obtain ⟨i,hi,hk⟩:=mem_blks.1 h2
 have hs:=hr.each i hi (hr.len ▸ hi)
 rcases hk with hk | hk
 · obtain ⟨c2,e2⟩:=OwnRow.heap hs.spans hk
   exact type_ne e1 e2 (by decide)
 · obtain ⟨c2,e2⟩:=hs.ends.heap hk
   exact type_ne e1 e2 (by decide)
theorem HO.live_plus (h0:HO w0 X H w v d j h lv vs) (x:Chg S w w') (hS:∀ k,S k→H k) {N:Nat→Prop} (hN:NewIn w w' N):Live w0 (Plus X N) w' v d :=
 (h0.live.addChg x fun k hk => ⟨h0.sub k (hS k hk),(h0.new k (hS k hk)).1⟩).drop fun k hk => hk.elim .inl fun e => .inr (hN k e)
theorem HO.grow (h0:HO w0 X H w v d j h lv vs) {n:Nat} (hown:OwnRow segRow 3 132 w' w0.heap.size u (vs++[⟨n,.slice none 0 0,.slice none 0 0⟩])) (hg:w.grownBy w' lv.ownBlock) (hb:u.ownBlock=lv.ownBlock∨u.ownBlock=some w.heap.size) :
  ∃ N,NewIn w (w'.setCell ⟨j,3,none⟩ u) N∧HO w0 (Plus X N) (Plus H N) (w'.setCell ⟨j,3,none⟩ u) v d j { h with l:=h.l++[⟨n,[]⟩] } u (vs++[⟨n,.slice none 0 0,.slice none 0 0⟩])∧HK X H w (w'.setCell ⟨j,3,none⟩ u):=by
 have hj:=h0.inH j (.inl rfl)
 have hjl:=h0.blk.lt
 have hc1:=chg_of_grown hg
 have hc2:Chg (fun k => k=j) w' (w'.setCell ⟨j,3,none⟩ u):=(Chg.refl (fun k => k=j) w').setCell (p:=⟨j,3,none⟩) (fun _ => rfl) _
 have hsz:(w'.setCell ⟨j,3,none⟩ u).heap.size=w'.heap.size:=by simp
 have hlv:∀ k,lv.ownBlock=some k→H k:=fun k hk => h0.inH k (.inr (.inl hk))
 have hult:=hown.lt
 have hune:∀ k,u.ownBlock=some k→k≠j:=fun k hk e => by
  rcases hb with hb | hb
  · exact h0.ne k (.inl (hb ▸ hk)) e
  · rw [hb] at hk;injection hk with hk;omega
 have hc:Chg (fun k => lv.ownBlock=some k∨k=j) w (w'.setCell ⟨j,3,none⟩ u):=(Chg.mono hc1 fun k _ e => .inl e).trans (Chg.mono hc2 fun k _ e => .inr e)
 refine ⟨fun k => u.ownBlock=some k∧w.heap.size≤k,fun k hk => ⟨hk.2,by rw [hsz];exact (hult k hk.1).2⟩,?_,Chg.mono hc fun k _ e => .inr (e.elim (hlv k) fun e => by rw [e];exact hj)⟩
 have hkeep:∀ k,k∈blks vs→¬ (lv.ownBlock=some k∨k=j):=fun k hk e => e.elim (fun e => h0.rows.rowNe e hk) (fun e => h0.ne k (.inr hk) e)
 refine ⟨h0.live_plus hc (fun k e => e.elim (hlv k) fun e => by rw [e];exact hj) fun k hk => ⟨hk.2,by rw [hsz];exact (hult k hk.1).2⟩,(h0.blk.chg hc1 (fun e => h0.ne j (.inl e) rfl)).set 3 _,⟨hown.chg hc2 hune,by simp [h0.rows.len],fun i hi hi' => ?_,fun i k hi hk hne b hb1 hb2 => ?_⟩,fun k hk => ?_,fun k hk => hk.elim (fun e => .inl (h0.sub k e)) .inr,fun k hk => ?_⟩
 · by_cases e:i<vs.length
   · rw [List.getElem_append_left e,List.getElem_append_left (by rw [← h0.rows.len];exact e)]
     exact (h0.rows.each i e (by rw [← h0.rows.len];exact e)).chg hc fun k hk => hkeep k (mem_blks.2 ⟨i,e,mem_segBlks.1 hk⟩)
   · have hi2:i=vs.length:=by rw [List.length_append,List.length_singleton] at hi;omega
     subst hi2
     rw [List.getElem_append_right (Nat.le_refl _),List.getElem_append_right (by rw [h0.rows.len];exact Nat.le_refl _)]
     simp only [Nat.sub_self,h0.rows.len,List.getElem_singleton]
     exact ⟨rfl,OwnRow.nil _ _,OwnI.nil _ _⟩
 · have hemp:segBlks ⟨n,.slice none 0 0,.slice none 0 0⟩=[]:=rfl
   by_cases e1:i<vs.length
   · by_cases e2:k<vs.length
     · rw [List.getElem_append_left e1] at hb1
       rw [List.getElem_append_left e2] at hb2
       exact h0.rows.apart i k e1 e2 hne b hb1 hb2
     · have hk2:k=vs.length:=by rw [List.length_append,List.length_singleton] at hk;omega
       subst hk2
       rw [List.getElem_append_right (Nat.le_refl _)] at hb2
       simp only [Nat.sub_self,List.getElem_singleton] at hb2
       rw [hemp] at hb2
       cases hb2
   · have hi2:i=vs.length:=by rw [List.length_append,List.length_singleton] at hi;omega
     subst hi2
     rw [List.getElem_append_right (Nat.le_refl _)] at hb1
     simp only [Nat.sub_self,List.getElem_singleton] at hb1
     rw [hemp] at hb1
     cases hb1
 · rcases hk with rfl | hk | hk
   · exact .inl hj
   · rcases hb with hb | hb
     · exact .inl (hlv k (hb ▸ hk))
     · refine .inr ⟨hk,?_⟩
       rw [hb] at hk;injection hk with hk;omega
   · refine .inl (h0.inH k (.inr (.inr ?_)))
     obtain ⟨i,hi,hk⟩:=mem_blks.1 hk
     by_cases e:i<vs.length
     · rw [List.getElem_append_left e] at hk
       exact mem_blks.2 ⟨i,e,hk⟩
     · have hi2:i=vs.length:=by rw [List.length_append,List.length_singleton] at hi;omega
       subst hi2
       rw [List.getElem_append_right (Nat.le_refl _)] at hk
       simp only [Nat.sub_self,List.getElem_singleton] at hk
       rcases hk with hk | hk <;> cases hk
 · rcases hk with hk | ⟨hk,hk2⟩
   · exact ⟨(h0.new k hk).1,Nat.lt_of_lt_of_le (h0.new k hk).2 hc.size⟩
   · exact ⟨(hult k hk).1,by rw [hsz];exact (hult k hk).2⟩
structure Pend (w0 w W:World) (sv ev:Value) (xs:List Sp.Span) (x:Sp.Span) (su eu:Option Value):Prop where
 chg:Chg (fun k => sv.ownBlock=some k∨ev.ownBlock=some k) w W
 sp:match su with
  | none => OwnSp W w0.heap.size sv xs
  | some u => OwnSp W w0.heap.size u (xs++[x])∧∀ k,u.ownBlock=some k→sv.ownBlock=some k∨w.heap.size≤k
 en:match eu with
  | none => OwnI W w0.heap.size ev (sgEnds xs)
  | some u => OwnI W w0.heap.size u (sgEnds (xs++[x]))∧∀ k,u.ownBlock=some k→ev.ownBlock=some k∨w.heap.size≤k
variable {W W':World} {sv ev:Value} {xs:List Sp.Span} {x:Sp.Span} {su eu:Option Value}
theorem Pend.start (h1:OwnSp w w0.heap.size sv xs) (h2:OwnI w w0.heap.size ev (sgEnds xs)):Pend w0 w w sv ev xs x none none:=⟨Chg.refl _ _,h1,h2⟩
theorem sp_en_ne {B1 B2:Nat} {u1 u2:Value} {ys:List Sp.Span} {zs:List Int} (h1:OwnSp w B1 u1 ys) (h2:OwnI w B2 u2 zs) {k:Nat} (e1:u1.ownBlock=some k) (e2:u2.ownBlock=some k):False:=by
 obtain ⟨c1,g1⟩:=OwnRow.heap h1 e1
 obtain ⟨c2,g2⟩:=h2.heap e2
 exact type_ne g1 g2 (by decide)
theorem Pend.size (h:Pend w0 w W sv ev xs x su eu):w.heap.size≤W.heap.size:=h.chg.size
theorem Pend.below (h:Pend w0 w W sv ev xs x su eu) (y:Below W.heap.size W W'):Pend w0 w W' sv ev xs x su eu:=by
 obtain ⟨h1,h2,h3⟩:=h
 refine ⟨h1.trans (Chg.of_below y),?_,?_⟩
 · cases su with
   | none => exact OwnRow.below h2 y
   | some u => exact ⟨OwnRow.below h2.1 y,h2.2⟩
 · cases eu with
   | none => exact h3.kept y
   | some u => exact ⟨h3.1.kept y,h3.2⟩
theorem Pend.spans (h:Pend w0 w W sv ev xs x none eu) {u:Value} (ho:OwnSp W' w0.heap.size u (xs++[x])) (hg:W.grownBy W' sv.ownBlock) (hb:u.ownBlock=sv.ownBlock∨u.ownBlock=some W.heap.size):Pend w0 w W' sv ev xs x (some u) eu:=by
 obtain ⟨h1,h2,h3⟩:=h
 have hc:=chg_of_grown hg
 refine ⟨h1.trans (Chg.mono hc fun k _ e => .inl e),⟨ho,fun k hk => ?_⟩,?_⟩
 · rcases hb with hb | hb
   · exact .inl (hb ▸ hk)
   · rw [hb] at hk;injection hk with hk;exact .inr (by rw [← hk];exact h1.size)
 · cases eu with
   | none => exact h3.chg hc fun k hk e => sp_en_ne h2 h3 e hk
   | some u2 => exact ⟨h3.1.chg hc fun k hk e => sp_en_ne h2 h3.1 e hk,h3.2⟩
theorem Pend.ends (h:Pend w0 w W sv ev xs x su none) {u:Value} (ho:OwnI W' w0.heap.size u (sgEnds (xs++[x]))) (hg:W.grownBy W' ev.ownBlock) (hb:u.ownBlock=ev.ownBlock∨u.ownBlock=some W.heap.size):Pend w0 w W' sv ev xs x su (some u):=by
 obtain ⟨h1,h2,h3⟩:=h
 have hc:=chg_of_grown hg
 refine ⟨h1.trans (Chg.mono hc fun k _ e => .inr e),?_,⟨ho,fun k hk => ?_⟩⟩
 · cases su with
   | none => exact OwnRow.chg h2 hc fun k hk e => sp_en_ne h2 h3 hk e
   | some u2 => exact ⟨OwnRow.chg h2.1 hc fun k hk e => sp_en_ne h2.1 h3 hk e,h2.2⟩
 · rcases hb with hb | hb
   · exact .inl (hb ▸ hk)
   · rw [hb] at hk;injection hk with hk;exact .inr (by rw [← hk];exact h1.size)
theorem seg_blks_ne (h0:HO w0 X H w v d j h lv vs) {i n:Nat} (hi:i<vs.length) (hn:n<vs.length) (hne:i≠n) {k:Nat} (h1:k∈segBlks vs[i]) (h2:vs[n].sv.ownBlock=some k∨vs[n].ev.ownBlock=some k):False :=
 h0.rows.apart i n hi hn hne k h1 (mem_segBlks.2 h2)
theorem HO.finish (h0:HO w0 X H w v d j h lv vs) {init:List Sg} {a:Sg} (hl:h.l=init++[a]) {g c n:Nat} (hlv:lv=.slice (some ⟨g,0,none⟩) n c) (hi:init.length<vs.length) (hvs:vs[init.length]=⟨a.first,sv,ev⟩)
  {u1 u2:Value} (hp:Pend w0 w W sv ev a.spans x (some u1) (some u2)) {W2:World} (hW2:W2=(W.setCell ⟨g,init.length*3+1,none⟩ u1).setCell ⟨g,init.length*3+2,none⟩ u2) :
  ∃ N vs',NewIn w W2 N∧HO w0 (Plus X N) (Plus H N) W2 v d j { h with l:=init++[⟨a.first,a.spans++[x]⟩] } lv vs'∧HK X H w W2:=by
 obtain ⟨hc1,⟨hs,hsb⟩,⟨he,heb⟩⟩:=hp
 have hsv:vs[init.length].sv=sv:=by rw [hvs]
 have hev:vs[init.length].ev=ev:=by rw [hvs]
 have hbg:∀ k,sv.ownBlock=some k∨ev.ownBlock=some k→k∈blks vs:=fun k hk => mem_blks.2 ⟨init.length,hi,by rw [hsv,hev];exact hk⟩
 have hHb:∀ k,sv.ownBlock=some k∨ev.ownBlock=some k→H k:=fun k hk => h0.inH k (.inr (.inr (hbg k hk)))
 have hgo:lv.ownBlock=some g:=by rw [hlv];rfl
 have hHg:H g:=h0.inH g (.inr (.inl hgo))
 have hgn:¬ (sv.ownBlock=some g∨ev.ownBlock=some g):=fun e => h0.rows.rowNe hgo (hbg g e)
 have hrow:OwnRow segRow 3 132 W w0.heap.size lv vs:=h0.rows.row.chg hc1 fun k hk e => by rw [hgo] at hk;injection hk with hk;subst hk;exact hgn e
 have hc2:Chg (fun k => k=g) W W2:=by
  rw [hW2]
  exact ((Chg.refl (fun k => k=g) W).setCell (p:=⟨g,_,none⟩) (fun _ => rfl) _).setCell (p:=⟨g,_,none⟩) (fun _ => rfl) _
 have hsz:W2.heap.size=W.heap.size:=by rw [hW2];simp
 have hc:Chg (fun k => (sv.ownBlock=some k∨ev.ownBlock=some k)∨k=g) w W2:=(Chg.mono hc1 fun k _ e => .inl e).trans (Chg.mono hc2 fun k _ e => .inr e)
 have hH:∀ k,((sv.ownBlock=some k∨ev.ownBlock=some k)∨k=g)→H k:=fun k e => e.elim (hHb k) fun e => by rw [e];exact hHg
 obtain ⟨sW,gW⟩:=hrow.heap hgo
 have hs2:∀ k,u1.ownBlock=some k→k≠g:=fun k hk e => by
  subst e
  obtain ⟨c2,e2⟩:=OwnRow.heap hs hk
  exact type_ne gW e2 (by decide)
 have he2:∀ k,u2.ownBlock=some k→k≠g:=fun k hk e => by
  subst e
  obtain ⟨c2,e2⟩:=he.heap hk
  exact type_ne gW e2 (by decide)
 have hslt:=OwnRow.lt hs
 have helt:=he.lt'
 have hlen:h.l.length=init.length+1:=by rw [hl];simp
 have hvl:vs.length=init.length+1:=by rw [h0.rows.len,hlen]
 refine ⟨fun k => (u1.ownBlock=some k∨u2.ownBlock=some k)∧w.heap.size≤k,vs.set init.length ⟨a.first,u1,u2⟩,?hN,?_,Chg.mono hc fun k _ e => .inr (hH k e)⟩
 case hN => exact fun k hk => ⟨hk.2,by rw [hsz];exact hk.1.elim (fun e => (hslt k e).2) fun e => (helt k e).2⟩
 have hrow2:OwnRow segRow 3 132 W2 w0.heap.size lv (vs.set init.length ⟨a.first,u1,u2⟩):=by
  have p1:=hrow.put segRow_len init.length hi 1 u1 ⟨a.first,u1,ev⟩ (by omega) (by rw [hvs];rfl) hlv
  have hi2:init.length<(vs.set init.length ⟨a.first,u1,ev⟩).length:=by rw [List.length_set];exact hi
  have p2:=p1.put segRow_len init.length hi2 2 u2 ⟨a.first,u1,u2⟩ (by omega) (by rw [List.getElem_set_self];rfl) hlv
  rw [List.set_set] at p2
  rw [hW2]
  exact p2
 refine ⟨h0.live_plus hc hH fun k hk => ⟨hk.2,by rw [hsz];exact hk.1.elim (fun e => (hslt k e).2) fun e => (helt k e).2⟩,h0.blk.chg hc (fun e => e.elim (fun e => h0.ne j (.inr (hbg j e)) rfl) fun e => h0.ne g (.inl hgo) e.symm),⟨hrow2,by rw [List.length_set,hvl];simp,fun i hi1 hi' => ?_,fun i k hi1 hk1 hne b hb1 hb2 => ?_⟩,fun k hk => ?_,fun k hk => hk.elim (fun e => .inl (h0.sub k e)) .inr,fun k hk => ?_⟩
 · rw [List.length_set] at hi1
   by_cases e:i=init.length
   · subst e
     rw [List.getElem_set_self,List.getElem_append_right (Nat.le_refl _)]
     simp only [Nat.sub_self,List.getElem_singleton]
     exact ⟨rfl,OwnRow.chg hs hc2 hs2,he.chg hc2 he2⟩
   · have hlt:i<init.length:=by omega
     rw [List.getElem_set_ne (fun e2 => e e2.symm),List.getElem_append_left hlt]
     have h1:=h0.rows.each i hi1 (by omega)
     have ea:h.l[i]'(by omega)=init[i]:=by simp [hl,List.getElem_append_left hlt]
     rw [ea] at h1
     refine h1.chg hc fun k hk e2 => ?_
     rcases e2 with e2 | e2
     · exact seg_blks_ne h0 hi1 hi e hk (by rw [hsv,hev];exact e2)
     · subst e2
       exact h0.rows.rowNe hgo (mem_blks.2 ⟨i,hi1,mem_segBlks.1 hk⟩)
 · rw [List.length_set] at hi1 hk1
   have hnew:∀ (q:Nat) (hq:q<vs.length),q≠init.length→∀ b,b∈segBlks vs[q]→b ∉ segBlks ⟨a.first,u1,u2⟩:=fun q hq hqn b hb hb' => by
    have hbl:b<w.heap.size:=(h0.new b (h0.inH b (.inr (.inr (mem_blks.2 ⟨q,hq,mem_segBlks.1 hb⟩))))).2
    rcases mem_segBlks.1 hb' with e | e
    · rcases hsb b e with e | e
      · exact seg_blks_ne h0 hq hi hqn hb (by rw [hsv];exact .inl e)
      · omega
    · rcases heb b e with e | e
      · exact seg_blks_ne h0 hq hi hqn hb (by rw [hev];exact .inr e)
      · omega
   by_cases e1:i=init.length
   · subst e1
     rw [List.getElem_set_self] at hb1
     rw [List.getElem_set_ne hne] at hb2
     exact hnew k hk1 (fun e => hne e.symm) b hb2 hb1
   · rw [List.getElem_set_ne (fun e => e1 e.symm)] at hb1
     by_cases e2:k=init.length
     · subst e2
       rw [List.getElem_set_self] at hb2
       exact hnew i hi1 e1 b hb1 hb2
     · rw [List.getElem_set_ne (fun e => e2 e.symm)] at hb2
       exact h0.rows.apart i k hi1 hk1 hne b hb1 hb2
 · rcases hk with rfl | hk | hk
   · exact .inl (h0.inH _ (.inl rfl))
   · exact .inl (h0.inH k (.inr (.inl hk)))
   · obtain ⟨i,hi1,hk⟩:=mem_blks.1 hk
     rw [List.length_set] at hi1
     by_cases e:i=init.length
     · subst e
       rw [List.getElem_set_self] at hk
       rcases hk with hk | hk
       · rcases hsb k hk with e | e
         · exact .inl (hHb k (.inl e))
         · exact .inr ⟨.inl hk,e⟩
       · rcases heb k hk with e | e
         · exact .inl (hHb k (.inr e))
         · exact .inr ⟨.inr hk,e⟩
     · rw [List.getElem_set_ne (fun e2 => e e2.symm)] at hk
       exact .inl (h0.inH k (.inr (.inr (mem_blks.2 ⟨i,hi1,hk⟩))))
 · rcases hk with hk | ⟨hk,hk2⟩
   · exact ⟨(h0.new k hk).1,Nat.lt_of_lt_of_le (h0.new k hk).2 hc.size⟩
   · rw [hsz]
     exact hk.elim (fun e => hslt k e) fun e => helt k e
theorem HO.addX (h0:HO w0 X H w v d j h lv vs) (x:Below w.heap.size w w'):HO w0 (Also X w w') H w' v d j h lv vs :=
 ⟨h0.live.add x,h0.blk.below x,h0.rows.below x,h0.inH,fun k hk => .inl (h0.sub k hk),fun k hk => ⟨(h0.new k hk).1,Nat.lt_of_lt_of_le (h0.new k hk).2 x.size⟩⟩
theorem HO.dropX {Y:Nat→Prop} (h0:HO w0 X H w v d j h lv vs) (hY:∀ k,Y k→X k) (hH:∀ k,H k→Y k):HO w0 Y H w v d j h lv vs :=
 ⟨h0.live.drop hY,h0.blk,h0.rows,h0.inH,hH,h0.new⟩
theorem under_segs:Tryz.prog.underlying 134=some (.slice 132):=by kernel_rfl
theorem Tryz.info_seg:(Tryz.prog.info? 132).map (fun i => (i.zero,i.size,i.bytes))=some (some (.agg #[.int .i64 0,.slice none 0 0,.slice none 0 0]),3,56):=by kernel_rfl
theorem under_spans:Tryz.prog.underlying 61=some (.slice 47):=by kernel_rfl
theorem Tryz.info_span:(Tryz.prog.info? 47).map (fun i => (i.zero,i.size,i.bytes))=some (some (.agg #[.int .i64 0,.int .i64 0,.int .i64 0,.string ⟨#[]⟩,.string ⟨#[]⟩,.int .i64 0,.int .i64 0,.string ⟨#[]⟩]),8,88):=by kernel_rfl
theorem HO.post {X2 H2:Nat→Prop} {x0 W2:World} {h':Hl} {vs':List SegV} {lv':Value} {Nf:Nat→Prop} (hX2:∀ k,X k→X2 k) (hH2:∀ k,H2 k→H k∨(w.heap.size≤k∧k<x0.heap.size)) (hHX:∀ k,H k→X k) (hHH:∀ k,H k→H2 k) (hXl:∀ k,X k→k<w.heap.size)
  (hc:HK X H w x0) (hs:∀ k,H2 k→X2 k) (hN:NewIn x0 W2 Nf) (ho:HO w0 (Plus X2 Nf) (Plus H2 Nf) W2 v d j h' lv' vs') (hk:HK X2 H2 x0 W2):HPost w0 X H w v d j h' W2:=by
 have hz1:w.heap.size≤x0.heap.size:=Chg.size hc
 have hz2:x0.heap.size≤W2.heap.size:=Chg.size hk
 refine ⟨fun k => (H2 k∧w.heap.size≤k)∨Nf k,fun k hk => ?_,HO.hs (lv:=lv') (vs:=vs') ⟨ho.live.drop fun k hk => ?_,ho.blk,ho.rows,fun k hk => ?_,fun k hk => hk.elim (fun e => .inl (hHX k e)) .inr,fun k hk => ?_⟩,Chg.trans hc (Chg.mono hk fun k _ e => ?_)⟩
 · rcases hk with ⟨h1,h2⟩ | h1
   · exact ⟨h2,(ho.new k (.inl h1)).2⟩
   · exact ⟨Nat.le_trans hz1 (hN k h1).1,(hN k h1).2⟩
 · rcases hk with hk | ⟨hk,_⟩ | hk
   · exact .inl (hX2 k hk)
   · exact .inl (hs k hk)
   · exact .inr hk
 · rcases ho.inH k hk with h1 | h1
   · rcases hH2 k h1 with h2 | ⟨h2,_⟩
     · exact .inl h2
     · exact .inr (.inl ⟨h1,h2⟩)
   · exact .inr (.inr h1)
 · rcases hk with hk | ⟨hk,_⟩ | hk
   · exact ho.new k (.inl (hHH k hk))
   · exact ho.new k (.inl hk)
   · exact ho.new k (.inr hk)
 · rcases e with e | e
   · exact .inl fun e2 => e (hX2 k e2)
   · rcases hH2 k e with h2 | ⟨h2,_⟩
     · exact .inr h2
     · exact .inl fun e2 => by have:=hXl k e2;omega
def iRow (z:Int):List Value:=[.int .i64 z]
theorem iRow_len:∀ z,(iRow z).length=1:=fun _ => rfl
theorem iRow_one:∀ z,∀ u∈iRow z,u.oneCell'=true:=fun z u hu => by
 simp [iRow] at hu
 rw [hu];rfl
theorem flat_iRow (l:List Int):l.flatMap iRow=l.map (Value.int .i64):=by
 induction l with
 | nil => rfl
 | cons a l ih => rw [List.flatMap_cons,ih];rfl
theorem ownI_row {l:List Int} (h:OwnI w B v l):OwnRow iRow 1 3 w B v l:=by
 unfold OwnRow
 rw [flat_iRow]
 exact h
theorem ownI_of {l:List Int} (h:OwnRow iRow 1 3 w B v l):OwnI w B v l:=by
 unfold OwnRow at h
 rw [flat_iRow] at h
 exact h
theorem HO.finish' (h0:HO w0 X H w v d j h lv vs) {init:List Sg} {fn n:Nat} (hl:h.l=init++[⟨fn,xs⟩]) (hn:n=init.length) {g m c:Nat} (hlv:lv=.slice (some ⟨g,0,none⟩) m c) (hi:n<vs.length) (hvs:vs[n]=⟨fn,sv,ev⟩)
  {u1 u2:Value} (hp:Pend w0 w W sv ev xs x (some u1) (some u2)) {W2:World} (hW2:W2=(W.setCell ⟨g,n*3+1,none⟩ u1).setCell ⟨g,n*3+2,none⟩ u2) :
  ∃ N vs',NewIn w W2 N∧HO w0 (Plus X N) (Plus H N) W2 v d j { h with l:=init++[⟨fn,xs++[x]⟩] } lv vs'∧HK X H w W2:=by
 subst hn
 exact h0.finish (a:=⟨fn,xs⟩) hl hlv hi hvs hp hW2
theorem HO.still (h0:HO w0 X H w v d j h lv vs) {g m c n:Nat} (hlv:lv=.slice (some ⟨g,0,none⟩) m c) (hi:n<vs.length) {fn:Nat} (hvs:vs[n]=⟨fn,sv,ev⟩) (hc:Chg (fun k => sv.ownBlock=some k∨ev.ownBlock=some k) w W) :
  (W.cell? ⟨g,n*3,none⟩=some (.int .i64 fn)∧W.cell? ⟨g,n*3+1,none⟩=some sv∧W.cell? ⟨g,n*3+2,none⟩=some ev)∧W.frozen? ⟨g,n*3+1,none⟩=false∧W.frozen? ⟨g,n*3+2,none⟩=false:=by
 have hgo:lv.ownBlock=some g:=by rw [hlv];rfl
 have hrow:OwnRow segRow 3 132 W w0.heap.size lv vs:=h0.rows.row.chg hc fun k hk e => by
  rw [hgo] at hk;injection hk with hk;subst hk
  exact h0.rows.rowNe hgo (mem_blks.2 ⟨n,hi,by rw [hvs];exact e⟩)
 obtain ⟨g',c',hlv',_,_,_,hcs⟩:=hrow.at_ segRow_len n hi
 rw [hlv] at hlv'
 injection hlv' with e1 _ _
 injection e1 with e1
 injection e1 with e1 _ _
 subst e1
 have h1:=hcs 0 _ rfl
 have h2:=hcs 1 _ rfl
 have h3:=hcs 2 _ rfl
 rw [hvs] at h1 h2 h3
 exact ⟨⟨h1.1,h2.1,h3.1⟩,h2.2,h3.2⟩
theorem HO.inSeg (h0:HO w0 X H w v d j h lv vs) {n fn:Nat} (hi:n<vs.length) (hvs:vs[n]=⟨fn,sv,ev⟩) {k:Nat} (hk:sv.ownBlock=some k∨ev.ownBlock=some k):H k:=h0.inH k (.inr (.inr (mem_blks.2 ⟨n,hi,by rw [hvs];exact hk⟩)))
end
end Go.Proofs.YtdacanghbepjpaaGreatDoor
namespace Go.Proofs.YtdacanghbepjpaaGreatDoor
set_option linter.unusedSimpArgs false
set_option linter.unusedVariables false
set_option maxRecDepth 100000
open Go.RowKit Go.Maps
open Dsk
section
variable {w0 w w':World} {X H S:Nat→Prop} {v lv:Value} {d d':Dk} {j B:Nat} {h:Hl} {vs:List SegV} {l:List Sg}
theorem HK.wide {X1:Nat→Prop} (hX:∀ k,X k→X1 k) (x:HK X1 H w w'):HK X H w w':=Chg.mono x fun k _ e => e.elim (fun e => .inl fun e2 => e (hX k e2)) .inr
theorem told_zero (h:Hl):h.told 0=h:=by
 obtain ⟨a,b,c⟩:=h
 unfold Hl.told
 simp
set_option maxHeartbeats 16000000 in
theorem hbegin_any (h0:HS w0 X H w v d j h) (he:LEnv w0) (hbd:SgsBnd h.l) (hn:nextOf h.l≤999999999) (s:ByteArray) (hs:s.size≤100000) :
  Calls Tryz.prog 81 #[.pointer (some ⟨j,0,none⟩),.string s] w fun e w' => e=.returned (.int .i64 (beginP d h s.data.toList).1)∧HPost w0 X H w v (beginP d h s.data.toList).2.2 j (beginP d h s.data.toList).2.1 w':=by
 obtain ⟨lv,vs,ho⟩:=h0.open_
 obtain ⟨bd,rfl⟩:=h0.ptr
 have hnb9:nextOf h.l≤999999999:=hn
 have hvs9:vs.length≤1000000:=by rw [ho.rows.len];exact hbd.many
 obtain ⟨q,hq⟩:∃ q,q=w.heap.size:=⟨_,rfl⟩
 obtain ⟨wa,hwa⟩:∃ wa,wa=w.alloc (.cells #[.int .i64 0,.slice none 0 0,.slice none 0 0] 132 (0,0)):=⟨_,rfl⟩
 have hba:Below w.heap.size w wa:=by rw [hwa];exact (Below.refl _ _).alloc (Nat.le_refl _) _
 have HQa:=Lib.hid (show Blk wa q 132 #[.int .i64 0,.slice none 0 0,.slice none 0 0] by rw [hwa,hq];exact Blk.alloc_new w _ _)
 obtain ⟨X1,hX1⟩:∃ X1,X1=Also X w wa:=⟨_,rfl⟩
 have HOa:=Lib.hid (show HO w0 X1 H wa (.pointer (some ⟨bd,0,none⟩)) d j h lv vs by rw [hX1];exact ho.addX hba)
 have HXX:=Lib.hid (show ∀ k,X k→X1 k by rw [hX1];exact fun k e => .inl e)
 have HHX:=Lib.hid ho.sub
 have HQX:=Lib.hid (show X1 q∧¬ H q from ⟨by rw [hX1,hq];exact .inr ⟨Nat.le_refl _,by rw [hwa];simp⟩,fun e => by have:=(ho.new q e).2;omega⟩)
 have HQW:=Lib.hid (show w.heap.size≤q from by omega)
 have HZW:=Lib.hid (show w0.heap.size≤w.heap.size from ho.live.size)
 have HCa:=Lib.hid (HK.below (X:=X) (H:=H) hba)
 have HWA:=Lib.hid hwa
 have HL:=Lib.hid (fun (W:World) (hW:HO w0 X1 H W (.pointer (some ⟨bd,0,none⟩)) d j h lv vs) => hlast_any hW.blk hW.rows hbd.many)
 obtain ⟨nx,hnx⟩:∃ nx,nx=nextOf h.l:=⟨_,rfl⟩
 have HNQ:=Lib.hid (fun (W:World) (hW:Below w0.heap.size w0 W) => segName_any (he.below hW) (n:=nx) (by omega) none none 0 0 0 0)
 unfold segVal at HNQ
 rcases List.eq_nil_or_concat h.l with hl | ⟨init,a,hl⟩
 · have e0:lastPtr lv h.l.length=.pointer none:=by rw [hl];exact lastPtr_nil lv
   rw [e0] at HL
   have hnx0:nx=0:=by rw [hnx,hl];rfl
   obtain ⟨z,hz⟩:∃ z,z=d.append (ln nx) s.data.toList:=⟨_,rfl⟩
   obtain ⟨r,dd⟩:=z
   have HBG:=Lib.hid (show (r=0→beginP d h s.data.toList=(0,{ h with l:=h.l++[⟨nx,[]⟩] },dd))∧(r≠0→beginP d h s.data.toList=(r,h.told r,dd)) from by
    have e1:beginP d h s.data.toList=if r≠0 then (r,h.told r,dd) else (0,{ h with l:=h.l++[⟨nx,[]⟩] },dd):=by
     have hg:h.l.getLast?=none:=by rw [hl];rfl
     unfold beginP
     rw [hg]
     simp only [← hnx,← hz]
     simp
    rw [e1]
    exact ⟨fun e => by rw [if_neg (by simp [e])],fun e => by rw [if_pos e]⟩)
   have HAP:=Lib.hid (fun (W:World) (hW:Live w0 X1 W (.pointer (some ⟨bd,0,none⟩)) d) => hW.appendK (lnB nx) s (lnB_data _) rfl hz.symm (by have:=lnB_size (n:=nx) (by omega);omega) (by unfold maxLen;omega))
   have hm1:¬ (999999999:Int)<nx:=by omega
   subst hnx0
   have HNQ:=Lib.hid (show ∀ (W:World) (hW:Below w0.heap.size w0 W),Calls Tryz.prog 80 #[.agg #[.int .i64 0,.slice none 0 0,.slice none 0 0]] W fun e w' => e=.returned (.string (lnB 0))∧Below W.heap.size W w' from HNQ.out)
   clear h0 he hbd hn ho hl hba hX1 hwa hz e0 hnx hs hnb9 hm1
   go_enter Tryz.func81,Tryz.ntmps81
   go_wp2_with fail
   rw [← HWA.out,← hq]
   clear hq
   refine (HL.out wa HOa.out).mono ?_
   rintro e w1 ⟨rfl,hb1⟩
   have HO1:=Lib.hid (HOa.out.below hb1)
   have HC1:=Lib.hid (HCa.out.trans (HK.below hb1))
   have HQ1:=Lib.hid (HQa.out.below hb1)
   have hq1:=HQ1.out
   have c0:=hq1.cell 0
   simp at c0
   clear hb1 hq1
   go_wp2_with fail
   refine wp_region_two (T:=fun W => W.cell? ⟨j,0,none⟩=some (.pointer (some ⟨bd,0,none⟩))∧W.cell? ⟨q,0,none⟩=some (.int .i64 0)∧W.cell? ⟨q,1,none⟩=some (.slice none 0 0)∧W.cell? ⟨q,2,none⟩=some (.slice none 0 0)) (S:=fun _ => True) (n:=99) (by kernel_rfl) ?_
   obtain ⟨z1,hy1⟩:∃ y1,y1=(w1).drew:=⟨_,rfl⟩
   rw [← hy1]
   have hby:Below (w1).heap.size w1 z1:=by rw [hy1];exact (Below.refl _ _).drew
   have HOz1:=Lib.hid (HO.below HO1.out hby)
   have HCz1:=Lib.hid (HK.trans HC1.out (HK.below hby))
   have HQz1:=Lib.hid (Blk.below HQ1.out hby)
   have hS:True:=trivial
   have hT:z1.cell? ⟨j,0,none⟩=some (.pointer (some ⟨bd,0,none⟩))∧z1.cell? ⟨q,0,none⟩=some (.int .i64 0)∧z1.cell? ⟨q,1,none⟩=some (.slice none 0 0)∧z1.cell? ⟨q,2,none⟩=some (.slice none 0 0):=⟨HOz1.out.blk.cell 0,HQz1.out.cell 0,HQz1.out.cell 1,HQz1.out.cell 2⟩
   clear hy1 hby
   refine tk 0 35 hT hS ?_
   refine tk 1 36 hT hS ?_
   try simp only [xq]
   refine tk 2 37 hT hS ?_
   refine tk 3 38 hT hS ?_
   try simp only [xq]
   refine tk 4 39 hT hS ?_
   refine tk 5 40 hT hS ?_
   try simp only [xq]
   refine tk 7 42 hT hS ?_
   try simp only [xq]
   refine two_one 6 rfl (by kernel_rfl) ?_
   intro K hK
   go_simp
   refine (HNQ.out z1 HOz1.out.live.below).mono ?_
   rintro e z2 ⟨rfl,hbz⟩
   have HOz2:=Lib.hid (HO.below HOz1.out hbz)
   have HCz2:=Lib.hid (HK.trans HCz1.out (HK.below hbz))
   have HQz2:=Lib.hid (Blk.below HQz1.out hbz)
   have hT1:z2.cell? ⟨j,0,none⟩=some (.pointer (some ⟨bd,0,none⟩))∧z2.cell? ⟨q,0,none⟩=some (.int .i64 0)∧z2.cell? ⟨q,1,none⟩=some (.slice none 0 0)∧z2.cell? ⟨q,2,none⟩=some (.slice none 0 0):=⟨HOz2.out.blk.cell 0,HQz2.out.cell 0,HQz2.out.cell 1,HQz2.out.cell 2⟩
   refine hK.out _ _ hT1 (fun _ _ => hS) ?_
   clear hK K hT hbz
   have hT:=hT1
   clear hT1
   try simp only [xq]
   refine two_one 8 rfl (by kernel_rfl) ?_
   intro K hK
   go_simp
   refine (HAP.out z2 HOz2.out.live).mono ?_
   rintro e z3 ⟨rfl,hlz,hkz⟩
   have HOz3:=Lib.hid (HO.turn HOz2.out hlz hkz)
   have HCz3:=Lib.hid (HK.trans HCz2.out (HK.wide HXX.out (HK.keeps hkz)))
   have HQz3:=Lib.hid (Blk.chg HQz2.out hkz (fun e => e HQX.out.1))
   have hT1:z3.cell? ⟨j,0,none⟩=some (.pointer (some ⟨bd,0,none⟩))∧z3.cell? ⟨q,0,none⟩=some (.int .i64 0)∧z3.cell? ⟨q,1,none⟩=some (.slice none 0 0)∧z3.cell? ⟨q,2,none⟩=some (.slice none 0 0):=⟨HOz3.out.blk.cell 0,HQz3.out.cell 0,HQz3.out.cell 1,HQz3.out.cell 2⟩
   refine hK.out _ _ hT1 (fun _ _ => hS) ?_
   clear hK K hT hlz hkz
   have hT:=hT1
   clear hT1
   try simp only [xq]
   refine two_one 9 rfl (by kernel_rfl) ?_
   intro K hK
   go_simp
   refine (hdoes_at HOz3.out _).mono ?_
   rintro e z4 ⟨rfl,hoz,hkz⟩
   have HOz4:=Lib.hid hoz
   have HCz4:=Lib.hid (HK.trans HCz3.out (HK.wide HXX.out hkz))
   have HQz4:=Lib.hid (Blk.chg HQz3.out hkz (fun e => e.elim (fun e => e HQX.out.1) HQX.out.2))
   have hT1:z4.cell? ⟨j,0,none⟩=some (.pointer (some ⟨bd,0,none⟩))∧z4.cell? ⟨q,0,none⟩=some (.int .i64 0)∧z4.cell? ⟨q,1,none⟩=some (.slice none 0 0)∧z4.cell? ⟨q,2,none⟩=some (.slice none 0 0):=⟨HOz4.out.blk.cell 0,HQz4.out.cell 0,HQz4.out.cell 1,HQz4.out.cell 2⟩
   refine hK.out _ _ hT1 (fun _ _ => hS) ?_
   clear hK K hT hoz hkz
   have hT:=hT1
   clear hT1
   try simp only [xq]
   refine tk 10 8 hT hS ?_
   try simp only [xq]
   refine two_done (by kernel_rfl) ?_ _
   clear hT hS
   by_cases hr0:r=0
   case neg =>
    have t1:(r == 0)=false:=beq_eq_false_iff_ne.2 hr0
    have HV:=Lib.hid (HBG.out.2 hr0)
    go_wp2_with fail
    go_ret
    rw [HV.out]
    exact ⟨rfl,HPost.same (HOz4.out.dropX HXX.out HHX.out).hs HCz4.out⟩
   case pos =>
    have HV:=Lib.hid (HBG.out.1 hr0)
    subst hr0
    have HOz5:=Lib.hid (show HO w0 X1 H z4 (.pointer (some ⟨bd,0,none⟩)) dd j h lv vs by have:=HOz4.out;rw [told_zero] at this;exact this)
    go_wp2_with fail
    obtain ⟨x0,hx0⟩:∃ x0,x0=z4.drew:=⟨_,rfl⟩
    have hb01:Below z4.heap.size z4 x0:=by rw [hx0];exact (Below.refl _ _).drew
    have HO0:=Lib.hid (HOz5.out.below hb01)
    have HC0:=Lib.hid (HCz4.out.trans (HK.below hb01))
    have HQ0:=Lib.hid (HQz4.out.below hb01)
    obtain ⟨lx,lc,hlv⟩:=HO0.out.rows.row.shape
    obtain ⟨vn,hvn⟩:∃ vn,vn=vs.length:=⟨_,rfl⟩
    rw [← hvn] at hlv
    subst hlv
    have hT:x0.cell? ⟨q,0,none⟩=some (.int .i64 0)∧x0.cell? ⟨q,1,none⟩=some (.slice none 0 0)∧x0.cell? ⟨q,2,none⟩=some (.slice none 0 0):=⟨HQ0.out.cell 0,HQ0.out.cell 1,HQ0.out.cell 2⟩
    have hS:x0.cell? ⟨j,3,none⟩=some (.slice lx vn lc):=HO0.out.blk.cell 3
    refine wp_region_two (T:=fun W => W.cell? ⟨q,0,none⟩=some (.int .i64 0)∧W.cell? ⟨q,1,none⟩=some (.slice none 0 0)∧W.cell? ⟨q,2,none⟩=some (.slice none 0 0)) (S:=fun W => W.cell? ⟨j,3,none⟩=some (.slice lx vn lc)) (n:=10) (by kernel_rfl) ?_
    rw [← hx0]
    have HVN:=Lib.hid hvn
    clear hx0 hb01 hvn
    refine tk 0 47 hT hS ?_
    refine tk 1 48 hT hS ?_
    try simp only [xq]
    refine tk 2 49 hT hS ?_
    refine tk 3 50 hT hS ?_
    try simp only [xq]
    refine two_take 4 (some 51) (v:=?_) rfl rfl (by kernel_rfl) (by kernel_rfl) (by kernel_rfl) (by kernel_rfl) (by decide) (by kernel_rfl) (fun _ _ _ h => h) (Or.inl ⟨by rfl,?hy4⟩) hT hS ?_
    case hy4 => (intro w' hS';(try unfold S8 at hS');(try unfold T8 at hS');go_simp;(try with_reducible rfl))
    try simp only [xq]
    refine tk 5 52 hT hS ?_
    try simp only [xq]
    refine two_one 6 rfl (by kernel_rfl) ?_
    intro K hK
    go_simp
    obtain ⟨x1,hx1⟩:∃ x1,x1=x0.alloc (.cells #[.int .i64 0,.slice none 0 0,.slice none 0 0] 132 (0,0)):=⟨_,rfl⟩
    rw [← hx1]
    have hb1:Below x0.heap.size x0 x1:=by rw [hx1];exact (Below.refl _ _).alloc (Nat.le_refl _) _
    have HK1:=Lib.hid (show Blk x1 x0.heap.size 132 #[.int .i64 0,.slice none 0 0,.slice none 0 0] by rw [hx1];exact Blk.alloc_new x0 _ _)
    have HO1:=Lib.hid (HO0.out.below hb1)
    have HC1:=Lib.hid (HC0.out.trans (HK.below hb1))
    have HQ1:=Lib.hid (HQ0.out.below hb1)
    have hT1:x1.cell? ⟨q,0,none⟩=some (.int .i64 0)∧x1.cell? ⟨q,1,none⟩=some (.slice none 0 0)∧x1.cell? ⟨q,2,none⟩=some (.slice none 0 0):=⟨HQ1.out.cell 0,HQ1.out.cell 1,HQ1.out.cell 2⟩
    have hS1:x1.cell? ⟨j,3,none⟩=some (.slice lx vn lc):=HO1.out.blk.cell 3
    refine hK.out _ _ hT1 (fun _ _ => hS1) ?_
    clear hK K hT hS hb1 hx1
    have hT:=hT1
    have hS:=hS1
    clear hT1 hS1
    try simp only [xq]
    refine two_one 7 rfl (by kernel_rfl) ?_
    intro K hK
    refine step_append_rows rfl (.tmp 51) (.tmp 53) (by rfl) segRow_len (by omega) under_segs Tryz.info_seg rfl (by omega) HO1.out.rows.row (by rfl) (m:=[⟨0,.slice none 0 0,.slice none 0 0⟩]) (by rfl) (RdRow.one HK1.out rfl) (fun a ha u hu => by
     obtain rfl:a=⟨0,.slice none 0 0,.slice none 0 0⟩:=by simpa using ha
     simp [segRow] at hu
     rcases hu with rfl | rfl <;> rfl) (by simp;omega) (by simp;omega) HO1.out.live.size ?_
    intro u3 x3 hown3 hgr3 hb3
    obtain ⟨ux3,uc3,hu3⟩:=hown3.shape
    obtain ⟨n3,hn3⟩:∃ n3,n3=(vs++[(⟨0,.slice none 0 0,.slice none 0 0⟩:SegV)]).length:=⟨_,rfl⟩
    rw [← hn3] at hu3
    subst hu3
    obtain ⟨N,hN,hog,hkg⟩:=HO1.out.grow hown3 hgr3 hb3
    have hch3:=chg_of_grown hgr3
    have hjb:=HO1.out.blk.chg hch3 (fun e => HO1.out.ne j (.inl e) rfl)
    have hqb:=HQ1.out.chg hch3 (fun e => HQX.out.2 (HO1.out.inH q (.inr (.inl e))))
    have hT1:x3.cell? ⟨q,0,none⟩=some (.int .i64 0)∧x3.cell? ⟨q,1,none⟩=some (.slice none 0 0)∧x3.cell? ⟨q,2,none⟩=some (.slice none 0 0):=⟨hqb.cell 0,hqb.cell 1,hqb.cell 2⟩
    have hS1:x3.cell? ⟨j,3,none⟩=some (.slice lx vn lc):=hjb.cell 3
    have f3:=hjb.free 3
    have HN:=Lib.hid hN
    have HOG:=Lib.hid hog
    have HKG:=Lib.hid hkg
    have HQ3:=Lib.hid hqb
    refine hK.out _ _ hT1 (fun _ _ => hS1) ?_
    clear hK K hT hS hown3 hgr3 hb3 hn3 hN hog hkg hch3 hjb hqb
    have hT:=hT1
    have hS:=hS1
    clear hT1 hS1
    try simp only [xq]
    refine tk 8 55 hT hS ?_
    refine tk 9 56 hT hS ?_
    try simp only [xq]
    refine two_one 10 rfl (by kernel_rfl) ?_
    intro K hK
    go_simp
    obtain ⟨x4,hx4⟩:∃ x4,x4=x3.setCell ⟨j,3,none⟩ (.slice ux3 n3 uc3):=⟨_,rfl⟩
    rw [← hx4] at HN HOG HKG ⊢
    have hqj:q≠j:=fun e => HQX.out.2 (HO1.out.inH q (.inl e))
    have hq4:Blk x4 q 132 #[.int .i64 0,.slice none 0 0,.slice none 0 0]:=by rw [hx4];exact HQ3.out.chg ((Chg.refl (fun k => k=j) x3).setCell (p:=⟨j,3,none⟩) (fun _ => rfl) _) hqj
    refine hK.out _ _ ⟨hq4.cell 0,hq4.cell 1,hq4.cell 2⟩ (fun _ e => absurd rfl e) ?_
    clear hK K hT hS f3 hx4 hqj hq4
    try simp only [xq]
    refine two_done (by kernel_rfl) ?_ _
    go_wp2_with fail
    go_ret
    rw [HV.out]
    refine ⟨rfl,N,fun k hk => ⟨Nat.le_trans HC1.out.size (HN.out k hk).1,(HN.out k hk).2⟩,HO.hs (HO.dropX HOG.out (fun k hk => hk.elim (fun e => .inl (HXX.out k e)) .inr) (fun k hk => hk.elim (fun e => .inl (HHX.out k e)) .inr)),HC1.out.trans (HK.wide HXX.out HKG.out)⟩
 · rw [List.concat_eq_append] at hl
   obtain ⟨g,c,sx,sc,ex,ec,hlv,hlp,_,_,hi,hvs⟩:=ho.last hl
   rw [hlp] at HL
   have hf9:=hbd.first a (by rw [hl];simp)
   have HNM:=Lib.hid (fun (W:World) (hW:Below w0.heap.size w0 W) => segName_any (he.below hW) hf9 sx ex a.spans.length sc a.spans.length ec)
   have HNX:=Lib.hid (fun W:World => segNext_any (w:=W) (n:=a.first) (m:=nx) sx ex a.spans.length sc a.spans.length ec (by rw [hnx,hl,nextOf_snoc];rfl) (by omega))
   unfold segVal at HNM HNX
   obtain ⟨y,hy⟩:∃ y,y=d.sync (ln a.first):=⟨_,rfl⟩
   obtain ⟨r1,d1⟩:=y
   obtain ⟨z,hz⟩:∃ z,z=d1.append (ln nx) s.data.toList:=⟨_,rfl⟩
   obtain ⟨r,dd⟩:=z
   have hbe:beginP d h s.data.toList=if r1≠0 then (r1,h.told r1,d1) else if r≠0 then (r,h.told r,dd) else (0,{ h with l:=h.l++[⟨nx,[]⟩] },dd):=by
    have hg:h.l.getLast?=some a:=by rw [hl,getLast_snoc]
    unfold beginP
    rw [hg]
    simp only [← hy,← hnx,← hz]
   have HSY:=Lib.hid (fun (W:World) (hW:Live w0 X1 W (.pointer (some ⟨bd,0,none⟩)) d) => hW.syncK (lnB a.first) (lnB_data _) hy.symm (by have:=lnB_size hf9;omega))
   have HAP:=Lib.hid (fun (W:World) (hW:Live w0 X1 W (.pointer (some ⟨bd,0,none⟩)) d1) => hW.appendK (lnB nx) s (lnB_data _) rfl hz.symm (by have:=lnB_size (n:=nx) (by omega);omega) (by unfold maxLen;omega))
   have HTC:=Lib.hid (fun (W:World) (D:Dk) (hh:Hl) (x:HO w0 X1 H W (.pointer (some ⟨bd,0,none⟩)) D j hh lv vs) => by
    have:=x.cells hlv init.length hi
    rw [hvs] at this
    exact this)
   obtain ⟨n,hn⟩:∃ n,n=init.length:=⟨_,rfl⟩
   obtain ⟨fn,hfn⟩:∃ fn,fn=a.first:=⟨_,rfl⟩
   obtain ⟨sn,hsn⟩:∃ sn,sn=a.spans.length:=⟨_,rfl⟩
   simp only [← hn,← hfn,← hsn] at HL HNM HSY HTC HNX
   have hm1:¬ (999999999:Int)<nx:=by omega
   have HBE:=Lib.hid hbe
   clear h0 he hbd ho hl hba hX1 hwa hz hy hnx hs hnb9 hlv hlp hi hvs hn hfn hsn hf9 hbe
   go_enter Tryz.func81,Tryz.ntmps81
   go_wp2_with fail
   rw [← HWA.out,← hq]
   clear hq
   refine (HL.out wa HOa.out).mono ?_
   rintro e w1 ⟨rfl,hb1⟩
   have HO1:=Lib.hid (HOa.out.below hb1)
   have HC1:=Lib.hid (HCa.out.trans (HK.below hb1))
   have HQ1:=Lib.hid (HQa.out.below hb1)
   clear hb1
   go_wp2_with fail
   refine wp_region_two (T:=fun W => W.cell? ⟨j,0,none⟩=some (.pointer (some ⟨bd,0,none⟩))∧W.cell? ⟨g,n*3,none⟩=some (.int .i64 fn)∧W.cell? ⟨g,n*3+1,none⟩=some (.slice sx sn sc)∧W.cell? ⟨g,n*3+2,none⟩=some (.slice ex sn ec)) (S:=fun _ => True) (n:=99) (by kernel_rfl) ?_
   obtain ⟨y1,hy1⟩:∃ y1,y1=(w1).drew:=⟨_,rfl⟩
   rw [← hy1]
   have hby:Below (w1).heap.size w1 y1:=by rw [hy1];exact (Below.refl _ _).drew
   have HOy1:=Lib.hid (HO.below HO1.out hby)
   have HCy1:=Lib.hid (HK.trans HC1.out (HK.below hby))
   have HQy1:=Lib.hid (Blk.below HQ1.out hby)
   have hS:True:=trivial
   have hT:=HTC.out y1 _ _ HOy1.out
   clear hy1 hby
   refine tk 0 13 hT hS ?_
   refine tk 1 14 hT hS ?_
   try simp only [xq]
   refine tk 2 15 hT hS ?_
   refine tk 3 16 hT hS ?_
   try simp only [xq]
   refine tk 4 17 hT hS ?_
   refine tk 5 18 hT hS ?_
   try simp only [xq]
   refine tk 6 19 hT hS ?_
   refine tk 7 20 hT hS ?_
   try simp only [xq]
   refine two_one 8 rfl (by kernel_rfl) ?_
   intro K hK
   go_simp
   refine (HNM.out y1 HOy1.out.live.below).mono ?_
   rintro e y2 ⟨rfl,hbz⟩
   have HOy2:=Lib.hid (HO.below HOy1.out hbz)
   have HCy2:=Lib.hid (HK.trans HCy1.out (HK.below hbz))
   have HQy2:=Lib.hid (Blk.below HQy1.out hbz)
   have hT1:=HTC.out y2 _ _ HOy2.out
   refine hK.out _ _ hT1 (fun _ _ => hS) ?_
   clear hK K hT hbz
   have hT:=hT1
   clear hT1
   try simp only [xq]
   refine two_one 9 rfl (by kernel_rfl) ?_
   intro K hK
   go_simp
   refine (HSY.out y2 HOy2.out.live).mono ?_
   rintro e y3 ⟨rfl,hlz,hkz⟩
   have HOy3:=Lib.hid (HO.turn HOy2.out hlz hkz)
   have HCy3:=Lib.hid (HK.trans HCy2.out (HK.wide HXX.out (HK.keeps hkz)))
   have HQy3:=Lib.hid (Blk.chg HQy2.out hkz (fun e => e HQX.out.1))
   have hT1:=HTC.out y3 _ _ HOy3.out
   refine hK.out _ _ hT1 (fun _ _ => hS) ?_
   clear hK K hT hlz hkz
   have hT:=hT1
   clear hT1
   try simp only [xq]
   refine two_one 10 rfl (by kernel_rfl) ?_
   intro K hK
   go_simp
   refine (hdoes_at HOy3.out _).mono ?_
   rintro e y4 ⟨rfl,hoz,hkz⟩
   have HOy4:=Lib.hid hoz
   have HCy4:=Lib.hid (HK.trans HCy3.out (HK.wide HXX.out hkz))
   have HQy4:=Lib.hid (Blk.chg HQy3.out hkz (fun e => e.elim (fun e => e HQX.out.1) HQX.out.2))
   have hT1:=HTC.out y4 _ _ HOy4.out
   refine hK.out _ _ hT1 (fun _ _ => hS) ?_
   clear hK K hT hoz hkz
   have hT:=hT1
   clear hT1
   try simp only [xq]
   refine tk 11 7 hT hS ?_
   try simp only [xq]
   refine two_done (by kernel_rfl) ?_ _
   clear hT hS
   by_cases hr1:r1=0
   case neg =>
    have t1:(r1 == 0)=false:=beq_eq_false_iff_ne.2 hr1
    have HV:=Lib.hid (show beginP d h s.data.toList=(r1,h.told r1,d1) by rw [HBE.out,if_pos hr1])
    go_wp2_with fail
    go_ret
    rw [HV.out]
    exact ⟨rfl,HPost.same (HOy4.out.dropX HXX.out HHX.out).hs HCy4.out⟩
   case pos =>
    subst hr1
    have HBG:=Lib.hid (show (r=0→beginP d h s.data.toList=(0,{ h with l:=h.l++[⟨nx,[]⟩] },dd))∧(r≠0→beginP d h s.data.toList=(r,h.told r,dd)) from by
     rw [HBE.out,if_neg (by simp)]
     exact ⟨fun e => by rw [if_neg (by simp [e])],fun e => by rw [if_pos e]⟩)
    have HO5:=Lib.hid (show HO w0 X1 H y4 (.pointer (some ⟨bd,0,none⟩)) d1 j h lv vs by have:=HOy4.out;rw [told_zero] at this;exact this)
    obtain ⟨q0,q1,q2,q3⟩:=HTC.out y4 _ _ HO5.out
    have b0:=HQy4.out.cell 0
    have bf:=HQy4.out.free 0
    simp at b0
    go_wp2_with fail
    refine (HNX.out y4).mono ?_
    rintro e w5 ⟨rfl,hb5⟩
    have HO6:=Lib.hid (HO5.out.below hb5)
    have HC6:=Lib.hid (HCy4.out.trans (HK.below hb5))
    have HQ6:=Lib.hid (HQy4.out.below hb5)
    have c0:=HQ6.out.cell 0
    have cf:=HQ6.out.free 0
    simp at c0
    clear hb5 q0 q1 q2 q3 b0 bf
    go_wp2_with fail
    obtain ⟨w6,hw6⟩:∃ w6,w6=w5.setCell ⟨q,0,none⟩ (.int .i64 nx):=⟨_,rfl⟩
    rw [← hw6]
    have hc6:Chg (fun k => k=q) w5 w6:=by rw [hw6];exact (Chg.refl (fun k => k=q) w5).setCell (p:=⟨q,0,none⟩) (fun _ => rfl) _
    have HO7:=Lib.hid (HO6.out.chg hc6 (HO6.out.live.chg hc6 (fun k e => by have e:k=q:=e;subst e;exact ⟨HQX.out.1,Nat.le_trans (Nat.le_trans (Nat.le_refl _) HZW.out) HQW.out⟩)) (fun k hk e => by have e:k=q:=e;subst e;exact HQX.out.2 hk))
    have HC7:=Lib.hid (show HK X H w w6 by rw [hw6];exact Chg.setCell (show Chg (fun k => ¬ X k∨H k) w w5 from HC6.out) (p:=⟨q,0,none⟩) (fun e => absurd e (by have:=HQW.out;simp only;omega)) _)
    have HQ7:=Lib.hid (show Blk w6 q 132 #[.int .i64 nx,.slice none 0 0,.slice none 0 0] by rw [hw6];exact HQ6.out.set 0 _)
    clear hw6 hc6 c0 cf
    refine wp_region_two (T:=fun W => W.cell? ⟨j,0,none⟩=some (.pointer (some ⟨bd,0,none⟩))∧W.cell? ⟨q,0,none⟩=some (.int .i64 nx)∧W.cell? ⟨q,1,none⟩=some (.slice none 0 0)∧W.cell? ⟨q,2,none⟩=some (.slice none 0 0)) (S:=fun _ => True) (n:=99) (by kernel_rfl) ?_
    obtain ⟨z1,hy1⟩:∃ y1,y1=(w6).drew:=⟨_,rfl⟩
    rw [← hy1]
    have hby:Below (w6).heap.size w6 z1:=by rw [hy1];exact (Below.refl _ _).drew
    have HOz1:=Lib.hid (HO.below HO7.out hby)
    have HCz1:=Lib.hid (HK.trans HC7.out (HK.below hby))
    have HQz1:=Lib.hid (Blk.below HQ7.out hby)
    have hS:True:=trivial
    have hT:z1.cell? ⟨j,0,none⟩=some (.pointer (some ⟨bd,0,none⟩))∧z1.cell? ⟨q,0,none⟩=some (.int .i64 nx)∧z1.cell? ⟨q,1,none⟩=some (.slice none 0 0)∧z1.cell? ⟨q,2,none⟩=some (.slice none 0 0):=⟨HOz1.out.blk.cell 0,HQz1.out.cell 0,HQz1.out.cell 1,HQz1.out.cell 2⟩
    clear hy1 hby
    refine tk 0 35 hT hS ?_
    refine tk 1 36 hT hS ?_
    try simp only [xq]
    refine tk 2 37 hT hS ?_
    refine tk 3 38 hT hS ?_
    try simp only [xq]
    refine tk 4 39 hT hS ?_
    refine tk 5 40 hT hS ?_
    try simp only [xq]
    refine tk 7 42 hT hS ?_
    try simp only [xq]
    refine two_one 6 rfl (by kernel_rfl) ?_
    intro K hK
    go_simp
    refine (HNQ.out z1 HOz1.out.live.below).mono ?_
    rintro e z2 ⟨rfl,hbz⟩
    have HOz2:=Lib.hid (HO.below HOz1.out hbz)
    have HCz2:=Lib.hid (HK.trans HCz1.out (HK.below hbz))
    have HQz2:=Lib.hid (Blk.below HQz1.out hbz)
    have hT1:z2.cell? ⟨j,0,none⟩=some (.pointer (some ⟨bd,0,none⟩))∧z2.cell? ⟨q,0,none⟩=some (.int .i64 nx)∧z2.cell? ⟨q,1,none⟩=some (.slice none 0 0)∧z2.cell? ⟨q,2,none⟩=some (.slice none 0 0):=⟨HOz2.out.blk.cell 0,HQz2.out.cell 0,HQz2.out.cell 1,HQz2.out.cell 2⟩
    refine hK.out _ _ hT1 (fun _ _ => hS) ?_
    clear hK K hT hbz
    have hT:=hT1
    clear hT1
    try simp only [xq]
    refine two_one 8 rfl (by kernel_rfl) ?_
    intro K hK
    go_simp
    refine (HAP.out z2 HOz2.out.live).mono ?_
    rintro e z3 ⟨rfl,hlz,hkz⟩
    have HOz3:=Lib.hid (HO.turn HOz2.out hlz hkz)
    have HCz3:=Lib.hid (HK.trans HCz2.out (HK.wide HXX.out (HK.keeps hkz)))
    have HQz3:=Lib.hid (Blk.chg HQz2.out hkz (fun e => e HQX.out.1))
    have hT1:z3.cell? ⟨j,0,none⟩=some (.pointer (some ⟨bd,0,none⟩))∧z3.cell? ⟨q,0,none⟩=some (.int .i64 nx)∧z3.cell? ⟨q,1,none⟩=some (.slice none 0 0)∧z3.cell? ⟨q,2,none⟩=some (.slice none 0 0):=⟨HOz3.out.blk.cell 0,HQz3.out.cell 0,HQz3.out.cell 1,HQz3.out.cell 2⟩
    refine hK.out _ _ hT1 (fun _ _ => hS) ?_
    clear hK K hT hlz hkz
    have hT:=hT1
    clear hT1
    try simp only [xq]
    refine two_one 9 rfl (by kernel_rfl) ?_
    intro K hK
    go_simp
    refine (hdoes_at HOz3.out _).mono ?_
    rintro e z4 ⟨rfl,hoz,hkz⟩
    have HOz4:=Lib.hid hoz
    have HCz4:=Lib.hid (HK.trans HCz3.out (HK.wide HXX.out hkz))
    have HQz4:=Lib.hid (Blk.chg HQz3.out hkz (fun e => e.elim (fun e => e HQX.out.1) HQX.out.2))
    have hT1:z4.cell? ⟨j,0,none⟩=some (.pointer (some ⟨bd,0,none⟩))∧z4.cell? ⟨q,0,none⟩=some (.int .i64 nx)∧z4.cell? ⟨q,1,none⟩=some (.slice none 0 0)∧z4.cell? ⟨q,2,none⟩=some (.slice none 0 0):=⟨HOz4.out.blk.cell 0,HQz4.out.cell 0,HQz4.out.cell 1,HQz4.out.cell 2⟩
    refine hK.out _ _ hT1 (fun _ _ => hS) ?_
    clear hK K hT hoz hkz
    have hT:=hT1
    clear hT1
    try simp only [xq]
    refine tk 10 8 hT hS ?_
    try simp only [xq]
    refine two_done (by kernel_rfl) ?_ _
    clear hT hS
    by_cases hr0:r=0
    case neg =>
     have t1:(r == 0)=false:=beq_eq_false_iff_ne.2 hr0
     have HV:=Lib.hid (HBG.out.2 hr0)
     go_wp2_with fail
     go_ret
     rw [HV.out]
     exact ⟨rfl,HPost.same (HOz4.out.dropX HXX.out HHX.out).hs HCz4.out⟩
    case pos =>
     have HV:=Lib.hid (HBG.out.1 hr0)
     subst hr0
     have HOz5:=Lib.hid (show HO w0 X1 H z4 (.pointer (some ⟨bd,0,none⟩)) dd j h lv vs by have:=HOz4.out;rw [told_zero] at this;exact this)
     go_wp2_with fail
     obtain ⟨x0,hx0⟩:∃ x0,x0=z4.drew:=⟨_,rfl⟩
     have hb01:Below z4.heap.size z4 x0:=by rw [hx0];exact (Below.refl _ _).drew
     have HO0:=Lib.hid (HOz5.out.below hb01)
     have HC0:=Lib.hid (HCz4.out.trans (HK.below hb01))
     have HQ0:=Lib.hid (HQz4.out.below hb01)
     obtain ⟨lx,lc,hlv⟩:=HO0.out.rows.row.shape
     obtain ⟨vn,hvn⟩:∃ vn,vn=vs.length:=⟨_,rfl⟩
     rw [← hvn] at hlv
     subst hlv
     have hT:x0.cell? ⟨q,0,none⟩=some (.int .i64 nx)∧x0.cell? ⟨q,1,none⟩=some (.slice none 0 0)∧x0.cell? ⟨q,2,none⟩=some (.slice none 0 0):=⟨HQ0.out.cell 0,HQ0.out.cell 1,HQ0.out.cell 2⟩
     have hS:x0.cell? ⟨j,3,none⟩=some (.slice lx vn lc):=HO0.out.blk.cell 3
     refine wp_region_two (T:=fun W => W.cell? ⟨q,0,none⟩=some (.int .i64 nx)∧W.cell? ⟨q,1,none⟩=some (.slice none 0 0)∧W.cell? ⟨q,2,none⟩=some (.slice none 0 0)) (S:=fun W => W.cell? ⟨j,3,none⟩=some (.slice lx vn lc)) (n:=10) (by kernel_rfl) ?_
     rw [← hx0]
     have HVN:=Lib.hid hvn
     clear hx0 hb01 hvn
     refine tk 0 47 hT hS ?_
     refine tk 1 48 hT hS ?_
     try simp only [xq]
     refine tk 2 49 hT hS ?_
     refine tk 3 50 hT hS ?_
     try simp only [xq]
     refine two_take 4 (some 51) (v:=?_) rfl rfl (by kernel_rfl) (by kernel_rfl) (by kernel_rfl) (by kernel_rfl) (by decide) (by kernel_rfl) (fun _ _ _ h => h) (Or.inl ⟨by rfl,?hy4⟩) hT hS ?_
     case hy4 => (intro w' hS';(try unfold S8 at hS');(try unfold T8 at hS');go_simp;(try with_reducible rfl))
     try simp only [xq]
     refine tk 5 52 hT hS ?_
     try simp only [xq]
     refine two_one 6 rfl (by kernel_rfl) ?_
     intro K hK
     go_simp
     obtain ⟨x1,hx1⟩:∃ x1,x1=x0.alloc (.cells #[.int .i64 nx,.slice none 0 0,.slice none 0 0] 132 (0,0)):=⟨_,rfl⟩
     rw [← hx1]
     have hb1:Below x0.heap.size x0 x1:=by rw [hx1];exact (Below.refl _ _).alloc (Nat.le_refl _) _
     have HK1:=Lib.hid (show Blk x1 x0.heap.size 132 #[.int .i64 nx,.slice none 0 0,.slice none 0 0] by rw [hx1];exact Blk.alloc_new x0 _ _)
     have HO1:=Lib.hid (HO0.out.below hb1)
     have HC1:=Lib.hid (HC0.out.trans (HK.below hb1))
     have HQ1:=Lib.hid (HQ0.out.below hb1)
     have hT1:x1.cell? ⟨q,0,none⟩=some (.int .i64 nx)∧x1.cell? ⟨q,1,none⟩=some (.slice none 0 0)∧x1.cell? ⟨q,2,none⟩=some (.slice none 0 0):=⟨HQ1.out.cell 0,HQ1.out.cell 1,HQ1.out.cell 2⟩
     have hS1:x1.cell? ⟨j,3,none⟩=some (.slice lx vn lc):=HO1.out.blk.cell 3
     refine hK.out _ _ hT1 (fun _ _ => hS1) ?_
     clear hK K hT hS hb1 hx1
     have hT:=hT1
     have hS:=hS1
     clear hT1 hS1
     try simp only [xq]
     refine two_one 7 rfl (by kernel_rfl) ?_
     intro K hK
     refine step_append_rows rfl (.tmp 51) (.tmp 53) (by rfl) segRow_len (by omega) under_segs Tryz.info_seg rfl (by omega) HO1.out.rows.row (by rfl) (m:=[⟨nx,.slice none 0 0,.slice none 0 0⟩]) (by rfl) (RdRow.one HK1.out rfl) (fun a ha u hu => by
      obtain rfl:a=⟨nx,.slice none 0 0,.slice none 0 0⟩:=by simpa using ha
      simp [segRow] at hu
      rcases hu with rfl | rfl <;> rfl) (by simp;omega) (by simp;omega) HO1.out.live.size ?_
     intro u3 x3 hown3 hgr3 hb3
     obtain ⟨ux3,uc3,hu3⟩:=hown3.shape
     obtain ⟨n3,hn3⟩:∃ n3,n3=(vs++[(⟨nx,.slice none 0 0,.slice none 0 0⟩:SegV)]).length:=⟨_,rfl⟩
     rw [← hn3] at hu3
     subst hu3
     obtain ⟨N,hN,hog,hkg⟩:=HO1.out.grow hown3 hgr3 hb3
     have hch3:=chg_of_grown hgr3
     have hjb:=HO1.out.blk.chg hch3 (fun e => HO1.out.ne j (.inl e) rfl)
     have hqb:=HQ1.out.chg hch3 (fun e => HQX.out.2 (HO1.out.inH q (.inr (.inl e))))
     have hT1:x3.cell? ⟨q,0,none⟩=some (.int .i64 nx)∧x3.cell? ⟨q,1,none⟩=some (.slice none 0 0)∧x3.cell? ⟨q,2,none⟩=some (.slice none 0 0):=⟨hqb.cell 0,hqb.cell 1,hqb.cell 2⟩
     have hS1:x3.cell? ⟨j,3,none⟩=some (.slice lx vn lc):=hjb.cell 3
     have f3:=hjb.free 3
     have HN:=Lib.hid hN
     have HOG:=Lib.hid hog
     have HKG:=Lib.hid hkg
     have HQ3:=Lib.hid hqb
     refine hK.out _ _ hT1 (fun _ _ => hS1) ?_
     clear hK K hT hS hown3 hgr3 hb3 hn3 hN hog hkg hch3 hjb hqb
     have hT:=hT1
     have hS:=hS1
     clear hT1 hS1
     try simp only [xq]
     refine tk 8 55 hT hS ?_
     refine tk 9 56 hT hS ?_
     try simp only [xq]
     refine two_one 10 rfl (by kernel_rfl) ?_
     intro K hK
     go_simp
     obtain ⟨x4,hx4⟩:∃ x4,x4=x3.setCell ⟨j,3,none⟩ (.slice ux3 n3 uc3):=⟨_,rfl⟩
     rw [← hx4] at HN HOG HKG ⊢
     have hqj:q≠j:=fun e => HQX.out.2 (HO1.out.inH q (.inl e))
     have hq4:Blk x4 q 132 #[.int .i64 nx,.slice none 0 0,.slice none 0 0]:=by rw [hx4];exact HQ3.out.chg ((Chg.refl (fun k => k=j) x3).setCell (p:=⟨j,3,none⟩) (fun _ => rfl) _) hqj
     refine hK.out _ _ ⟨hq4.cell 0,hq4.cell 1,hq4.cell 2⟩ (fun _ e => absurd rfl e) ?_
     clear hK K hT hS f3 hx4 hqj hq4
     try simp only [xq]
     refine two_done (by kernel_rfl) ?_ _
     go_wp2_with fail
     go_ret
     rw [HV.out]
     refine ⟨rfl,N,fun k hk => ⟨Nat.le_trans HC1.out.size (HN.out k hk).1,(HN.out k hk).2⟩,HO.hs (HO.dropX HOG.out (fun k hk => hk.elim (fun e => .inl (HXX.out k e)) .inr) (fun k hk => hk.elim (fun e => .inl (HHX.out k e)) .inr)),HC1.out.trans (HK.wide HXX.out HKG.out)⟩
end
end Go.Proofs.YtdacanghbepjpaaGreatDoor
namespace Go.Proofs.YtdacanghbepjpaaGreatDoor
set_option linter.unusedSimpArgs false
set_option linter.unusedVariables false
set_option maxRecDepth 100000
open Go.RowKit Go.Maps
open Dsk
section
variable {w0 w w':World} {X H S:Nat→Prop} {v lv:Value} {d d':Dk} {j B:Nat} {h:Hl} {vs:List SegV} {l:List Sg}
set_option maxHeartbeats 4000000 in
theorem happend_bad (h0:HS w0 X H w v d j h) (hrun:h.runs d) (he:LEnv w0) (hbd:SgsBnd h.l) (x:Sp.Span) (hs1:x.service.size≤maxLen) (hs2:x.host.size≤maxLen) (hs3:x.note.size≤maxLen) (hm:¬ Sp.May x) :
  Calls Tryz.prog 20 #[.pointer (some ⟨j,0,none⟩),spV x] w fun e w' => e=.returned (.int .i64 (appP d h x).1)∧HPost w0 X H w v (appP d h x).2.2 j (appP d h x).2.1 w':=by
 obtain ⟨lv,vs,ho⟩:=h0.open_
 obtain ⟨bd,rfl⟩:=h0.ptr
 obtain ⟨q,hq⟩:∃ q,q=w.heap.size:=⟨_,rfl⟩
 obtain ⟨wa,hwa⟩:∃ wa,wa=w.alloc (.cells #[.int .i64 x.trace,.int .i64 x.id,.int .i64 x.parent,.string x.service,.string x.host,.int .i64 x.start,.int .i64 x.dur,.string x.note] 47 (0,0)):=⟨_,rfl⟩
 have hba:Below w.heap.size w wa:=by rw [hwa];exact (Below.refl _ _).alloc (Nat.le_refl _) _
 have HQa:=Lib.hid (show Blk wa q 47 #[.int .i64 x.trace,.int .i64 x.id,.int .i64 x.parent,.string x.service,.string x.host,.int .i64 x.start,.int .i64 x.dur,.string x.note] by rw [hwa,hq];exact Blk.alloc_new w _ _)
 obtain ⟨X1,hX1⟩:∃ X1,X1=Also X w wa:=⟨_,rfl⟩
 have HOa:=Lib.hid (show HO w0 X1 H wa (.pointer (some ⟨bd,0,none⟩)) d j h lv vs by rw [hX1];exact ho.addX hba)
 have HXX:=Lib.hid (show ∀ k,X k→X1 k by rw [hX1];exact fun k e => .inl e)
 have HHX:=Lib.hid ho.sub
 have HXL:=Lib.hid ho.live.lt
 have HQX:=Lib.hid (show X1 q∧¬ H q from ⟨by rw [hX1,hq];exact .inr ⟨Nat.le_refl _,by rw [hwa];simp⟩,fun e => by have:=(ho.new q e).2;omega⟩)
 have HQW:=Lib.hid (show w.heap.size≤q from by omega)
 have HCa:=Lib.hid (HK.below (X:=X) (H:=H) hba)
 have HWA:=Lib.hid hwa
 have HR:=Lib.hid (hruns_any HOa.out.hs)
 rw [if_pos hrun] at HR
 have HEN:=Lib.hid (fun W:World => hencode_any (w:=W) x hs1 hs2 hs3)
 have HBZ:=Lib.hid (show w0.heap.size≤w.heap.size from ho.live.size)
 have hvs9:vs.length≤1000000:=by rw [ho.rows.len];exact hbd.many
 have hq2:spQ x=([],2):=by unfold spQ;exact if_neg hm
 rw [hq2] at HEN
 have HV:=Lib.hid (show appP d h x=(2,h,d) by unfold appP;rw [if_pos hm])
 rw [HV.out]
 obtain ⟨tr,id,pa,se,ho',sa,du,no⟩:=x
 unfold spV at HEN ⊢
 simp only at HEN HQa HWA ⊢
 clear h0 hrun he hbd hs1 hs2 hs3 hm ho hwa hba hX1 hq2 hvs9
 go_enter Tryz.func20,Tryz.ntmps20
 go_wp2_with fail
 rw [← HWA.out,← hq]
 clear hq
 refine HR.out.mono ?_
 rintro e w1 ⟨rfl,hb1⟩
 have HO1:=Lib.hid (HOa.out.below hb1)
 have HC1:=Lib.hid (HCa.out.trans (HK.below hb1))
 have HQ1:=Lib.hid (HQa.out.below hb1)
 clear hb1
 have a:=HQ1.out.cell 0
 have a1:=HQ1.out.cell 1
 have a2:=HQ1.out.cell 2
 have a3:=HQ1.out.cell 3
 have a4:=HQ1.out.cell 4
 have a5:=HQ1.out.cell 5
 have a6:=HQ1.out.cell 6
 have a7:=HQ1.out.cell 7
 simp at a a1 a2 a3 a4 a5 a6 a7
 go_wp2_with fail
 refine (HEN.out w1).mono ?_
 rintro e w2 ⟨rfl,hb2⟩
 have HO2:=Lib.hid (HO1.out.below hb2)
 have HC2:=Lib.hid (HC1.out.trans (HK.below hb2))
 clear hb2 a a1 a2 a3 a4 a5 a6 a7
 go_wp2_with fail
 go_ret
 exact ⟨rfl,HPost.same (HO2.out.dropX HXX.out HHX.out).hs HC2.out⟩
set_option maxHeartbeats 64000000 in
theorem happend_in (h0:HS w0 X H w v d j h) (hrun:h.runs d) (he:LEnv w0) (hbd:SgsBnd h.l) (x:Sp.Span) (hs1:x.service.size≤maxLen) (hs2:x.host.size≤maxLen) (hs3:x.note.size≤maxLen) (hm:Sp.May x)
  {init:List Sg} {a:Sg} (hl:h.l=init++[a]) (h16:a.spans.length<16) :
  Calls Tryz.prog 20 #[.pointer (some ⟨j,0,none⟩),spV x] w fun e w' => e=.returned (.int .i64 (appP d h x).1)∧HPost w0 X H w v (appP d h x).2.2 j (appP d h x).2.1 w':=by
 obtain ⟨lv,vs,ho⟩:=h0.open_
 obtain ⟨bd,rfl⟩:=h0.ptr
 obtain ⟨q,hq⟩:∃ q,q=w.heap.size:=⟨_,rfl⟩
 obtain ⟨wa,hwa⟩:∃ wa,wa=w.alloc (.cells #[.int .i64 x.trace,.int .i64 x.id,.int .i64 x.parent,.string x.service,.string x.host,.int .i64 x.start,.int .i64 x.dur,.string x.note] 47 (0,0)):=⟨_,rfl⟩
 have hba:Below w.heap.size w wa:=by rw [hwa];exact (Below.refl _ _).alloc (Nat.le_refl _) _
 have HQa:=Lib.hid (show Blk wa q 47 #[.int .i64 x.trace,.int .i64 x.id,.int .i64 x.parent,.string x.service,.string x.host,.int .i64 x.start,.int .i64 x.dur,.string x.note] by rw [hwa,hq];exact Blk.alloc_new w _ _)
 obtain ⟨X1,hX1⟩:∃ X1,X1=Also X w wa:=⟨_,rfl⟩
 have HOa:=Lib.hid (show HO w0 X1 H wa (.pointer (some ⟨bd,0,none⟩)) d j h lv vs by rw [hX1];exact ho.addX hba)
 have HXX:=Lib.hid (show ∀ k,X k→X1 k by rw [hX1];exact fun k e => .inl e)
 have HHX:=Lib.hid ho.sub
 have HXL:=Lib.hid ho.live.lt
 have HQX:=Lib.hid (show X1 q∧¬ H q from ⟨by rw [hX1,hq];exact .inr ⟨Nat.le_refl _,by rw [hwa];simp⟩,fun e => by have:=(ho.new q e).2;omega⟩)
 have HQW:=Lib.hid (show w.heap.size≤q from by omega)
 have HCa:=Lib.hid (HK.below (X:=X) (H:=H) hba)
 have HWA:=Lib.hid hwa
 have HR:=Lib.hid (hruns_any HOa.out.hs)
 rw [if_pos hrun] at HR
 have HEN:=Lib.hid (fun W:World => hencode_any (w:=W) x hs1 hs2 hs3)
 have HBZ:=Lib.hid (show w0.heap.size≤w.heap.size from ho.live.size)
 have hvs9:vs.length≤1000000:=by rw [ho.rows.len];exact hbd.many
 have hq2:spQ x=(Sp.enc x,0):=by unfold spQ;exact if_pos hm
 rw [hq2] at HEN
 have hel:=Sp.enc_len hm
 obtain ⟨E,hE⟩:∃ E:ByteArray,E=⟨(Sp.enc x).toArray⟩:=⟨_,rfl⟩
 have hEz:E.size=(Sp.enc x).length:=by rw [hE];exact List.size_toArray
 have hEd:E.data.toList=Sp.enc x:=by rw [hE]
 have HFR:=Lib.hid (fun W:World => frame_short E W (by omega))
 rw [hEd] at HFR
 simp only at HEN
 rw [← hE] at HEN
 obtain ⟨F,hF⟩:∃ F:ByteArray,F=⟨(frm x).toArray⟩:=⟨_,rfl⟩
 have hF2:(⟨(Frm.frame (Sp.enc x)).toArray⟩:ByteArray)=F:=by rw [hF];rfl
 rw [hF2] at HFR
 have hFd:F.data.toList=frm x:=by rw [hF]
 have hFl:=frm_len hm
 have hFz:F.size=(frm x).length:=by rw [hF];exact List.size_toArray
 obtain ⟨g,c,sx,sc,ex,ec,hlv,hlp,_,_,hi,hvs⟩:=ho.last hl
 have HL:=Lib.hid (fun (W:World) (D:Dk) (hh:Hl) (e:hh.l=h.l) (hW:HO w0 X1 H W (.pointer (some ⟨bd,0,none⟩)) D j hh lv vs) => by
  have:=hlast_any hW.blk hW.rows (by rw [e];exact hbd.many)
  rw [e,hlp] at this
  exact this)
 obtain ⟨fn,xs⟩:=a
 simp only at h16 hvs
 have hf9:fn≤999999999:=hbd.first ⟨fn,xs⟩ (by rw [hl];simp)
 have HBS:=Lib.hid (show (∀ y∈xs,Sp.May y)∧xs.length≤1000000 from ⟨hbd.may ⟨fn,xs⟩ (by rw [hl];simp),hbd.len ⟨fn,xs⟩ (by rw [hl];simp)⟩)
 have HNM:=Lib.hid (fun (W:World) (hW:Below w0.heap.size w0 W) => segName_any (he.below hW) hf9 sx ex xs.length sc xs.length ec)
 unfold segVal at HNM
 obtain ⟨z,hz⟩:∃ z,z=d.append (ln fn) (frm x):=⟨_,rfl⟩
 obtain ⟨r,dd⟩:=z
 have hap:appP d h x=if r≠0 then (r,h.told r,dd) else (0,{ h with l:=pushL h.l x },dd):=by
  have hg:h.l.getLast?=some ⟨fn,xs⟩:=by rw [hl,getLast_snoc]
  unfold appP
  rw [if_neg (fun e => e hm),hg]
  simp only [if_pos h16,← hz]
 have HAPP:=Lib.hid hap
 have HPU:=Lib.hid (show pushL h.l x=init++[⟨fn,xs++[x]⟩] by rw [hl,pushL_snoc])
 have HAP:=Lib.hid (fun (W:World) (hW:Live w0 X1 W (.pointer (some ⟨bd,0,none⟩)) d) => hW.appendK (lnB fn) F (lnB_data _) hFd hz.symm (by have:=lnB_size (n:=fn) (by omega);omega) (by unfold maxLen;omega))
 have HTC:=Lib.hid (fun (W:World) (D:Dk) (hh:Hl) (y:HO w0 X1 H W (.pointer (some ⟨bd,0,none⟩)) D j hh lv vs) => by
  have:=y.cells hlv init.length hi
  rw [hvs] at this
  exact this)
 have hll:h.l=init++[⟨fn,xs⟩]∧init.length=init.length∧lv=.slice (some ⟨g,0,none⟩) (init.length+1) c∧∃ hi:init.length<vs.length,vs[init.length]=⟨fn,.slice sx xs.length sc,.slice ex xs.length ec⟩:=⟨hl,rfl,hlv,hi,hvs⟩
 have HFE:=Lib.hid (show ((frm x).length:Int)=(F.size:Int) by rw [hFz])
 have HFS:=Lib.hid (show F.size≤120 by omega)
 obtain ⟨n,hn⟩:∃ n,n=init.length:=⟨_,rfl⟩
 obtain ⟨sn,hsn⟩:∃ sn,sn=xs.length:=⟨_,rfl⟩
 have HLL:=Lib.hid (show h.l=init++[⟨fn,xs⟩]∧n=init.length∧lv=.slice (some ⟨g,0,none⟩) (n+1) c∧∃ hi:n<vs.length,vs[n]=⟨fn,.slice sx sn sc,.slice ex sn ec⟩ by subst hn;subst hsn;exact hll)
 simp only [← hn,← hsn] at HL HNM HAP HTC
 have hs16:(sn:Int)<16:=by omega
 have HXA:=Lib.hid (show (∀ k,X k→X1 k)∧(∀ (x0:World) k,H k→H k∨(w.heap.size≤k∧k<x0.heap.size))∧(∀ k,H k→H k) from ⟨HXX.out,fun _ k e => .inl e,fun k e => e⟩)
 have HQ2:=HQX
 obtain ⟨tr,id,pa,se,ho',sa,du,no⟩:=x
 unfold spV at HEN ⊢
 simp only at HEN HQa HWA ⊢
 clear h0 hrun he hbd hs1 hs2 hs3 hm ho hwa hba hX1 hq2 hvs9 hE hEz hEd hel hF hF2 hFd hFl hFz hl hlv hlp hi hvs h16 hf9 hz hap hll hn hsn
 go_enter Tryz.func20,Tryz.ntmps20
 go_wp2_with fail
 rw [← HWA.out,← hq]
 clear hq
 refine HR.out.mono ?_
 rintro e w1 ⟨rfl,hb1⟩
 have HO1:=Lib.hid (HOa.out.below hb1)
 have HC1:=Lib.hid (HCa.out.trans (HK.below hb1))
 have HQ1:=Lib.hid (HQa.out.below hb1)
 clear hb1
 have a:=HQ1.out.cell 0
 have a1:=HQ1.out.cell 1
 have a2:=HQ1.out.cell 2
 have a3:=HQ1.out.cell 3
 have a4:=HQ1.out.cell 4
 have a5:=HQ1.out.cell 5
 have a6:=HQ1.out.cell 6
 have a7:=HQ1.out.cell 7
 simp at a a1 a2 a3 a4 a5 a6 a7
 go_wp2_with fail
 refine (HEN.out w1).mono ?_
 rintro e w2 ⟨rfl,hb2⟩
 have HO2:=Lib.hid (HO1.out.below hb2)
 have HC2:=Lib.hid (HC1.out.trans (HK.below hb2))
 have HQ2':=Lib.hid (HQ1.out.below hb2)
 clear hb2 a a1 a2 a3 a4 a5 a6 a7
 go_wp2_with fail
 refine (HFR.out w2).mono ?_
 rintro e w3 ⟨rfl,hb3⟩
 have HO3:=Lib.hid (HO2.out.below hb3)
 have HC3:=Lib.hid (HC2.out.trans (HK.below hb3))
 have HQ3:=Lib.hid (HQ2'.out.below hb3)
 clear hb3
 go_wp2_with fail
 refine (HL.out w3 _ _ rfl HO3.out).mono ?_
 rintro e w4 ⟨rfl,hb4⟩
 have HO4:=Lib.hid (HO3.out.below hb4)
 have HC4:=Lib.hid (HC3.out.trans (HK.below hb4))
 have HQ4:=Lib.hid (HQ3.out.below hb4)
 clear hb4
 obtain ⟨_,_,p1,_⟩:=HTC.out w4 _ _ HO4.out
 go_wp2_with fail
 clear p1
 refine wp_region_two (T:=fun W => W.cell? ⟨j,0,none⟩=some (.pointer (some ⟨bd,0,none⟩))∧W.cell? ⟨g,n*3,none⟩=some (.int .i64 fn)∧W.cell? ⟨g,n*3+1,none⟩=some (.slice sx sn sc)∧W.cell? ⟨g,n*3+2,none⟩=some (.slice ex sn ec)) (S:=fun _ => True) (n:=99) (by kernel_rfl) ?_
 obtain ⟨y1,hy1⟩:∃ y1,y1=(w4).drew:=⟨_,rfl⟩
 rw [← hy1]
 have hby:Below (w4).heap.size w4 y1:=by rw [hy1];exact (Below.refl _ _).drew
 have HOy1:=Lib.hid (HO.below HO4.out hby)
 have HCy1:=Lib.hid (HK.trans HC4.out (HK.below hby))
 have HQy1:=Lib.hid (Blk.below HQ4.out hby)
 have hS:True:=trivial
 have hT:=HTC.out y1 _ _ HOy1.out
 clear hy1 hby
 refine tk 0 44 hT hS ?_
 refine tk 1 45 hT hS ?_
 try simp only [xq]
 refine tk 2 46 hT hS ?_
 refine tk 3 47 hT hS ?_
 try simp only [xq]
 refine tk 4 48 hT hS ?_
 refine tk 5 49 hT hS ?_
 try simp only [xq]
 refine tk 6 50 hT hS ?_
 refine tk 7 51 hT hS ?_
 try simp only [xq]
 refine tk 9 53 hT hS ?_
 try simp only [xq]
 refine two_one 8 rfl (by kernel_rfl) ?_
 intro K hK
 go_simp
 refine (HNM.out y1 HOy1.out.live.below).mono ?_
 rintro e y2 ⟨rfl,hbz⟩
 have HOy2:=Lib.hid (HO.below HOy1.out hbz)
 have HCy2:=Lib.hid (HK.trans HCy1.out (HK.below hbz))
 have HQy2:=Lib.hid (Blk.below HQy1.out hbz)
 have hT1:=HTC.out y2 _ _ HOy2.out
 refine hK.out _ _ hT1 (fun _ _ => hS) ?_
 clear hK K hT hbz
 have hT:=hT1
 clear hT1
 try simp only [xq]
 refine two_one 10 rfl (by kernel_rfl) ?_
 intro K hK
 go_simp
 refine (HAP.out y2 HOy2.out.live).mono ?_
 rintro e y3 ⟨rfl,hlz,hkz⟩
 have HOy3:=Lib.hid (HO.turn HOy2.out hlz hkz)
 have HCy3:=Lib.hid (HK.trans HCy2.out (HK.wide HXX.out (HK.keeps hkz)))
 have HQy3:=Lib.hid (Blk.chg HQy2.out hkz (fun e => e HQX.out.1))
 have hT1:=HTC.out y3 _ _ HOy3.out
 refine hK.out _ _ hT1 (fun _ _ => hS) ?_
 clear hK K hT hlz hkz
 have hT:=hT1
 clear hT1
 try simp only [xq]
 refine two_one 11 rfl (by kernel_rfl) ?_
 intro K hK
 go_simp
 refine (hdoes_at HOy3.out _).mono ?_
 rintro e y4 ⟨rfl,hoz,hkz⟩
 have HOy4:=Lib.hid hoz
 have HCy4:=Lib.hid (HK.trans HCy3.out (HK.wide HXX.out hkz))
 have HQy4:=Lib.hid (Blk.chg HQy3.out hkz (fun e => e.elim (fun e => e HQX.out.1) HQX.out.2))
 have hT1:=HTC.out y4 _ _ HOy4.out
 refine hK.out _ _ hT1 (fun _ _ => hS) ?_
 clear hK K hT hoz hkz
 have hT:=hT1
 clear hT1
 try simp only [xq]
 refine tk 12 7 hT hS ?_
 try simp only [xq]
 refine two_done (by kernel_rfl) ?_ _
 clear hT hS
 by_cases hr0:r=0
 case neg =>
  have t1:(r == 0)=false:=beq_eq_false_iff_ne.2 hr0
  have HV:=Lib.hid (HAPP.out.trans (if_pos hr0))
  go_wp2_with fail
  go_ret
  rw [HV.out]
  exact ⟨rfl,HPost.same (HOy4.out.dropX HXX.out HHX.out).hs HCy4.out⟩
 case pos =>
  subst hr0
  have HV:=Lib.hid (HAPP.out.trans (if_neg (by simp)))
  rw [HPU.out] at HV
  have HO5:=Lib.hid (show HO w0 X1 H y4 (.pointer (some ⟨bd,0,none⟩)) dd j h lv vs by have:=HOy4.out;rw [told_zero] at this;exact this)
  go_wp2_with fail
  refine (HL.out y4 _ _ rfl HO5.out).mono ?_
  rintro e w5 ⟨rfl,hb5⟩
  have HO6:=Lib.hid (HO5.out.below hb5)
  have HC6:=Lib.hid (HCy4.out.trans (HK.below hb5))
  have HQ6:=Lib.hid (HQy4.out.below hb5)
  clear hb5
  go_wp2_with fail
  obtain ⟨x0,hx0⟩:∃ x0,x0=(w5).drew:=⟨_,rfl⟩
  have hb01:Below (w5).heap.size w5 x0:=by rw [hx0];exact (Below.refl _ _).drew
  have HO0:=Lib.hid (HO.below HO6.out hb01)
  have HC0:=Lib.hid (HK.trans HC6.out (HK.below hb01))
  have HQ0:=Lib.hid (Blk.below HQ6.out hb01)
  have HBZ:=Lib.hid (show w0.heap.size≤x0.heap.size from HO0.out.live.size)
  obtain ⟨hll,hnn,hlv,hii,hvs⟩:=HLL.out
  have hsg:SegAt w0.heap.size x0 ⟨fn,.slice sx sn sc,.slice ex sn ec⟩ ⟨fn,xs⟩:=by
   have h5:=HO0.out.rows.each n hii (by rw [hll,hnn];simp)
   rw [hvs] at h5
   have e5:(h.l)[n]'(by rw [hll,hnn];simp)=⟨fn,xs⟩:=by simp [hll,hnn]
   rw [e5] at h5
   exact h5
  have HPx0:=Lib.hid (show Pend w0 x0 x0 (.slice sx sn sc) (.slice ex sn ec) xs ⟨tr,id,pa,se,ho',sa,du,no⟩ none none from Pend.start hsg.spans hsg.ends)
  have HSV:=Lib.hid (fun k (hk:(Value.slice sx sn sc).ownBlock=some k) => (OwnRow.lt hsg.spans k hk).2)
  have HEV:=Lib.hid (fun k (hk:(Value.slice ex sn ec).ownBlock=some k) => (hsg.ends.lt' k hk).2)
  have HTT:=Lib.hid (fun (V:World) (hV:Chg (fun k => (Value.slice sx sn sc).ownBlock=some k∨(Value.slice ex sn ec).ownBlock=some k) x0 V) => show V.cell? ⟨q,0,none⟩=some (.int .i64 tr)∧V.cell? ⟨q,1,none⟩=some (.int .i64 id)∧V.cell? ⟨q,2,none⟩=some (.int .i64 pa)∧V.cell? ⟨q,3,none⟩=some (.string se)∧V.cell? ⟨q,4,none⟩=some (.string ho')∧V.cell? ⟨q,5,none⟩=some (.int .i64 sa)∧V.cell? ⟨q,6,none⟩=some (.int .i64 du)∧V.cell? ⟨q,7,none⟩=some (.string no) from by
   have k:=HQ0.out.chg hV (fun e => HQ2.out.2 (HO0.out.inSeg hii hvs e))
   exact ⟨k.cell 0,k.cell 1,k.cell 2,k.cell 3,k.cell 4,k.cell 5,k.cell 6,k.cell 7⟩)
  have HSS:=Lib.hid (fun (V:World) (hV:Chg (fun k => (Value.slice sx sn sc).ownBlock=some k∨(Value.slice ex sn ec).ownBlock=some k) x0 V) => (HO0.out.still hlv hii hvs hV).1)
  have HFZ:=Lib.hid (fun (V:World) (hV:Chg (fun k => (Value.slice sx sn sc).ownBlock=some k∨(Value.slice ex sn ec).ownBlock=some k) x0 V) => (HO0.out.still hlv hii hvs hV).2)
  have HTS:=Lib.hid (fun (V V2:World) (hV:Chg (fun k => (Value.slice sx sn sc).ownBlock=some k∨(Value.slice ex sn ec).ownBlock=some k) x0 V) (hV2:Chg (fun k => k=g) V V2) => show V2.cell? ⟨q,0,none⟩=some (.int .i64 tr)∧V2.cell? ⟨q,1,none⟩=some (.int .i64 id)∧V2.cell? ⟨q,2,none⟩=some (.int .i64 pa)∧V2.cell? ⟨q,3,none⟩=some (.string se)∧V2.cell? ⟨q,4,none⟩=some (.string ho')∧V2.cell? ⟨q,5,none⟩=some (.int .i64 sa)∧V2.cell? ⟨q,6,none⟩=some (.int .i64 du)∧V2.cell? ⟨q,7,none⟩=some (.string no) from by
   have k:=(HQ0.out.chg hV (fun e => HQ2.out.2 (HO0.out.inSeg hii hvs e))).chg hV2 (fun e => HQ2.out.2 (HO0.out.inH q (.inr (.inl (by rw [hlv,e];rfl)))))
   exact ⟨k.cell 0,k.cell 1,k.cell 2,k.cell 3,k.cell 4,k.cell 5,k.cell 6,k.cell 7⟩)
  have HFN:=Lib.hid (fun (V:World) (u1 u2:Value) (hp:Pend w0 x0 V (.slice sx sn sc) (.slice ex sn ec) xs ⟨tr,id,pa,se,ho',sa,du,no⟩ (some u1) (some u2)) (V2:World) (hV2:V2=(V.setCell ⟨g,n*3+1,none⟩ u1).setCell ⟨g,n*3+2,none⟩ u2) => show HPost w0 X H w (.pointer (some ⟨bd,0,none⟩)) dd j { h with l:=init++[⟨fn,xs++[⟨tr,id,pa,se,ho',sa,du,no⟩]⟩] } V2 from by
   obtain ⟨N,vs',hN,hO,hKK⟩:=HO0.out.finish' hll hnn hlv hii hvs hp hV2
   exact HO.post HXA.out.1 (HXA.out.2.1 x0) HHX.out HXA.out.2.2 HXL.out HC0.out HO0.out.sub hN hO hKK)
  have HMX:=Lib.hid (show ∀ y∈xs,Sp.May y from fun y hy => HBS.out.1 y hy)
  have HXN:=Lib.hid (HBS.out.2)
  have htl:=(sgT_len xs HMX.out).2
  have HTL:=Lib.hid (show (sgT xs).length≤1000000000 by have:=HXN.out;omega)
  obtain ⟨tot,htot⟩:∃ tot,tot=(sgT xs).length+F.size:=⟨_,rfl⟩
  have hadd:((sgT xs).length:Int)+(F.size:Int)=(tot:Int):=by omega
  have hwr:IntKind.i64.wrap (tot:Int)=tot:=by rw [IntKind.wrap_i64];have:=HTL.out;have:=HFS.out;omega
  have HEQ:=Lib.hid (show sgEnds (xs++[⟨tr,id,pa,se,ho',sa,du,no⟩])=sgEnds xs++[(tot:Int)] by rw [sgEnds_snoc,HFE.out,hadd])
  have hT:=HTT.out x0 (Chg.refl _ _)
  have hS:=HSS.out x0 (Chg.refl _ _)
  clear hll hnn hlv hii hvs hsg htl htot hb01
  refine wp_region_two (T:=fun W => W.cell? ⟨q,0,none⟩=some (.int .i64 tr)∧W.cell? ⟨q,1,none⟩=some (.int .i64 id)∧W.cell? ⟨q,2,none⟩=some (.int .i64 pa)∧W.cell? ⟨q,3,none⟩=some (.string se)∧W.cell? ⟨q,4,none⟩=some (.string ho')∧W.cell? ⟨q,5,none⟩=some (.int .i64 sa)∧W.cell? ⟨q,6,none⟩=some (.int .i64 du)∧W.cell? ⟨q,7,none⟩=some (.string no)) (S:=fun W => W.cell? ⟨g,n*3,none⟩=some (.int .i64 fn)∧W.cell? ⟨g,n*3+1,none⟩=some (.slice sx sn sc)∧W.cell? ⟨g,n*3+2,none⟩=some (.slice ex sn ec)) (n:=24) (by kernel_rfl) ?_
  rw [← hx0]
  clear hx0
  refine tk 0 63 hT hS ?_
  refine tk 1 64 hT hS ?_
  try simp only [xq]
  refine tk 2 65 hT hS ?_
  refine tk 3 66 hT hS ?_
  try simp only [xq]
  refine tk 4 67 hT hS ?_
  try simp only [xq]
  refine two_take 5 (some 68) (v:=?_) rfl rfl (by kernel_rfl) (by kernel_rfl) (by kernel_rfl) (by kernel_rfl) (by decide) (by kernel_rfl) (fun _ _ _ h => h) (Or.inl ⟨by rfl,?hy5⟩) hT hS ?_
  case hy5 => (intro w' hS';go_simp;(try with_reducible rfl))
  try simp only [xq]
  refine tk 6 69 hT hS ?_
  refine tk 9 72 hT hS ?_
  try simp only [xq]
  refine tk 10 73 hT hS ?_
  refine tk 11 74 hT hS ?_
  try simp only [xq]
  refine two_take 12 (some 75) (v:=?_) rfl rfl (by kernel_rfl) (by kernel_rfl) (by kernel_rfl) (by kernel_rfl) (by decide) (by kernel_rfl) (fun _ _ _ h => h) (Or.inl ⟨by rfl,?hy12⟩) hT hS ?_
  case hy12 => (intro w' hS';go_simp;(try with_reducible rfl))
  try simp only [xq]
  refine tk 13 76 hT hS ?_
  refine tk 14 77 hT hS ?_
  try simp only [xq]
  refine two_take 15 (some 78) (v:=?_) rfl rfl (by kernel_rfl) (by kernel_rfl) (by kernel_rfl) (by kernel_rfl) (by decide) (by kernel_rfl) (fun _ _ _ h => h) (Or.inl ⟨by rfl,?hy15⟩) hT hS ?_
  case hy15 => (intro w' hS';go_simp;(try with_reducible rfl))
  try simp only [xq]
  refine tk 17 80 hT hS ?_
  refine tk 18 81 hT hS ?_
  try simp only [xq]
  refine two_one 7 rfl (by kernel_rfl) ?_
  intro K hK
  go_simp
  obtain ⟨y0,hy0⟩:∃ y,y=x0.alloc (.cells #[.int .i64 tr,.int .i64 id,.int .i64 pa,.string se,.string ho',.int .i64 sa,.int .i64 du,.string no] 47 (0,0)):=⟨_,rfl⟩
  rw [← hy0]
  have hby0:Below x0.heap.size x0 y0:=by rw [hy0];exact (Below.refl _ _).alloc (Nat.le_refl _) _
  have HAy0:=Lib.hid (show Blk y0 x0.heap.size 47 #[.int .i64 tr,.int .i64 id,.int .i64 pa,.string se,.string ho',.int .i64 sa,.int .i64 du,.string no] by rw [hy0];exact Blk.alloc_new x0 _ _)
  have HAZ:=Lib.hid (show x0.heap.size≤x0.heap.size from HPx0.out.size)
  have HPy0:=Lib.hid (HPx0.out.below hby0)
  clear hy0 hby0
  have hT1:=HTT.out y0 HPy0.out.chg
  have hS1:=HSS.out y0 HPy0.out.chg
  refine hK.out _ _ hT1 (fun _ _ => hS1) ?_
  clear hK K hT hS
  have hT:=hT1
  have hS:=hS1
  clear hT1 hS1
  try simp only [xq]
  refine two_one 8 rfl (by kernel_rfl) ?_
  intro K hK
  refine step_append_rows rfl (.tmp 68) (.tmp 70) (by rfl) spRow_len (by omega) under_spans Tryz.info_span rfl (by omega) (show OwnSp y0 w0.heap.size (.slice sx sn sc) xs from HPy0.out.sp) (by rfl) (m:=[⟨tr,id,pa,se,ho',sa,du,no⟩]) (by rfl) (RdRow.one HAy0.out rfl) (fun a _ => spRow_one a) (by have:=HXN.out;simp;omega) (by have:=HXN.out;simp;omega) (Nat.le_trans HBZ.out HPy0.out.size) ?_
  intro u1 y1 hown hgr hb
  have HPy1:=Lib.hid (HPy0.out.spans hown hgr hb)
  obtain ⟨u1x,u1c,hu⟩:=OwnRow.shape hown
  obtain ⟨u1n,hun⟩:∃ u1n,u1n=(xs++[(⟨tr,id,pa,se,ho',sa,du,no⟩:Sp.Span)]).length:=⟨_,rfl⟩
  rw [← hun] at hu
  subst hu
  clear hown hgr hb hun
  have hT1:=HTT.out y1 HPy1.out.chg
  have hS1:=HSS.out y1 HPy1.out.chg
  refine hK.out _ _ hT1 (fun _ _ => hS1) ?_
  clear hK K hT hS
  have hT:=hT1
  have hS:=hS1
  clear hT1 hS1
  try simp only [xq]
  refine two_one 16 rfl (by kernel_rfl) ?_
  intro K hK
  go_simp
  refine (segEnd_any (w:=y1) (n:=fn) sx sn sc (show OwnI y1 w0.heap.size (.slice ex sn ec) (sgEnds xs) from HPy1.out.en) HMX.out HTL.out).mono ?_
  rintro e y2 ⟨rfl,hb⟩
  have HPy2:=Lib.hid (HPy1.out.below hb)
  clear hb
  have hT1:=HTT.out y2 HPy2.out.chg
  have hS1:=HSS.out y2 HPy2.out.chg
  refine hK.out _ _ hT1 (fun _ _ => hS1) ?_
  clear hK K hT hS
  have hT:=hT1
  have hS:=hS1
  clear hT1 hS1
  try simp only [xq]
  refine tk 19 82 hT hS ?_
  try simp only [xq]
  refine two_one 20 rfl (by kernel_rfl) ?_
  intro K hK
  go_simp
  obtain ⟨y3,hy3⟩:∃ y,y=y2.alloc (.cells #[.int .i64 tot] 3 (0,0)):=⟨_,rfl⟩
  rw [← hy3]
  have hby3:Below y2.heap.size y2 y3:=by rw [hy3];exact (Below.refl _ _).alloc (Nat.le_refl _) _
  have HIy3:=Lib.hid (show Blk y3 y2.heap.size 3 #[.int .i64 tot] by rw [hy3];exact Blk.alloc_new y2 _ _)
  have HIZ:=Lib.hid (show x0.heap.size≤y2.heap.size from HPy2.out.size)
  have HPy3:=Lib.hid (HPy2.out.below hby3)
  clear hy3 hby3
  have hT1:=HTT.out y3 HPy3.out.chg
  have hS1:=HSS.out y3 HPy3.out.chg
  refine hK.out _ _ hT1 (fun _ _ => hS1) ?_
  clear hK K hT hS
  have hT:=hT1
  have hS:=hS1
  clear hT1 hS1
  try simp only [xq]
  refine two_one 21 rfl (by kernel_rfl) ?_
  intro K hK
  refine step_append_rows rfl (.tmp 75) (.tmp 83) (by rfl) iRow_len (by omega) under_ints Tryz.info_int rfl (by omega) (ownI_row (show OwnI y3 w0.heap.size (.slice ex sn ec) (sgEnds xs) from HPy3.out.en)) (by rfl) (m:=[(tot:Int)]) (by rfl) (RdRow.one HIy3.out rfl) (fun a _ u hu => iRow_one a u hu) (by rw [sgEnds_length];have:=HXN.out;simp;omega) (by rw [sgEnds_length];have:=HXN.out;simp;omega) (Nat.le_trans HBZ.out HPy3.out.size) ?_
  intro u2 y4 hown hgr hb
  have hown2:OwnI y4 w0.heap.size u2 (sgEnds (xs++[⟨tr,id,pa,se,ho',sa,du,no⟩])):=by rw [HEQ.out];exact ownI_of hown
  have HPy4:=Lib.hid (HPy3.out.ends hown2 hgr hb)
  obtain ⟨u2x,u2c,hu⟩:=OwnRow.shape hown
  obtain ⟨u2n,hun⟩:∃ u2n,u2n=(sgEnds xs++[(tot:Int)]).length:=⟨_,rfl⟩
  rw [← hun] at hu
  subst hu
  clear hown hown2 hgr hb hun
  have hT1:=HTT.out y4 HPy4.out.chg
  have hS1:=HSS.out y4 HPy4.out.chg
  refine hK.out _ _ hT1 (fun _ _ => hS1) ?_
  clear hK K hT hS
  have hT:=hT1
  have hS:=hS1
  clear hT1 hS1
  try simp only [xq]
  refine tk 22 85 hT hS ?_
  refine tk 23 86 hT hS ?_
  try simp only [xq]
  obtain ⟨f1,f2⟩:=HFZ.out y4 HPy4.out.chg
  refine two_one 24 rfl (by kernel_rfl) ?_
  intro K hK
  go_simp
  obtain ⟨z1,hz1⟩:∃ z1,z1=y4.setCell ⟨g,n*3+1,none⟩ (.slice u1x u1n u1c):=⟨_,rfl⟩
  rw [← hz1]
  have hT1:=HTS.out y4 z1 HPy4.out.chg (by rw [hz1];exact (Chg.refl (fun k => k=g) y4).setCell (p:=⟨g,_,none⟩) (fun _ => rfl) _)
  have f3:z1.frozen? ⟨g,n*3+2,none⟩=false:=by rw [hz1];simpa using f2
  have c3:z1.cell? ⟨g,n*3+2,none⟩=some (.slice ex sn ec):=by rw [hz1];exact (World.cell?_setCell_other _ _ _ _ (by intro e;injection e with _ e _;omega)).trans hS.2.2
  refine hK.out _ _ hT1 (fun _ e => absurd rfl e) ?_
  have HZ1:=Lib.hid hz1
  clear hK K hT hS f1 f2 hz1
  have hT:=hT1
  clear hT1
  try simp only [xq]
  refine two_one 25 rfl (by kernel_rfl) ?_
  intro K hK
  go_simp
  refine hK.out _ _ hT (fun e _ => by exact absurd e (by decide)) ?_
  clear hK K
  try simp only [xq]
  refine two_one 26 rfl (by kernel_rfl) ?_
  intro K hK
  go_simp
  refine hK.out _ _ hT (fun e _ => by exact absurd e (by decide)) ?_
  clear hK K
  try simp only [xq]
  refine two_one 27 rfl (by kernel_rfl) ?_
  intro K hK
  go_simp
  obtain ⟨z2,hz2⟩:∃ z2,z2=z1.setCell ⟨g,n*3+2,none⟩ (.slice u2x u2n u2c):=⟨_,rfl⟩
  rw [← hz2]
  have hT2:=HTS.out y4 z2 HPy4.out.chg (by rw [hz2,HZ1.out];exact ((Chg.refl (fun k => k=g) y4).setCell (p:=⟨g,_,none⟩) (fun _ => rfl) _).setCell (p:=⟨g,_,none⟩) (fun _ => rfl) _)
  have HZZ:=Lib.hid (HFN.out y4 _ _ HPy4.out z2 (by rw [hz2,HZ1.out]))
  refine hK.out _ _ hT2 (fun e _ => by exact absurd e (by decide)) ?_
  clear hK K hT hT2 f3 c3 hz2
  try simp only [xq]
  refine two_done (by kernel_rfl) ?_ _
  go_wp2_with fail
  go_ret
  rw [HV.out]
  exact ⟨rfl,HZZ.out⟩
end
end Go.Proofs.YtdacanghbepjpaaGreatDoor
namespace Go.Proofs.YtdacanghbepjpaaGreatDoor
set_option linter.unusedSimpArgs false
set_option linter.unusedVariables false
set_option maxRecDepth 100000
open Go.RowKit Go.Maps
open Dsk
section
variable {w0 w w':World} {X H S:Nat→Prop} {v lv:Value} {d d':Dk} {j B:Nat} {h:Hl} {vs:List SegV} {l:List Sg}
theorem begin_l {b:Str} {r:Int} {hh:Hl} {dd:Dk} {nx:Nat} (hz:beginP d h b=(r,hh,dd)) (hr:r=0) (hn:nx=nextOf h.l):hh.l=h.l++[⟨nx,[]⟩]:=by
 have key:∀ y:Int×Dk,(if y.1≠0 then (y.1,h.told y.1,y.2)
   else let z:=y.2.append (ln (nextOf h.l)) b
    if z.1≠0 then (z.1,h.told z.1,z.2) else (0,{ h with l:=h.l++[⟨nextOf h.l,[]⟩] },z.2))=(r,hh,dd)→hh.l=h.l++[⟨nx,[]⟩]:=by
  intro y e
  by_cases h1:y.1≠0
  · rw [if_pos h1] at e
    injection e with e1 _
    exact absurd (e1.trans hr) h1
  · rw [if_neg h1] at e
    simp only at e
    by_cases h2:(y.2.append (ln (nextOf h.l)) b).1≠0
    · rw [if_pos h2] at e
      injection e with e1 _
      exact absurd (e1.trans hr) h2
    · rw [if_neg h2] at e
      injection e with _ e2
      injection e2 with e2 _
      rw [← e2,hn]
 exact key _ hz
set_option maxHeartbeats 64000000 in
theorem happend_nil (h0:HS w0 X H w v d j h) (hrun:h.runs d) (he:LEnv w0) (hbd:SgsBnd h.l) (hmore:h.l.length<1000000) (hnx:nextOf h.l≤999999999) (x:Sp.Span) (hs1:x.service.size≤maxLen) (hs2:x.host.size≤maxLen) (hs3:x.note.size≤maxLen) (hm:Sp.May x)
  (hl:h.l=[]) :
  Calls Tryz.prog 20 #[.pointer (some ⟨j,0,none⟩),spV x] w fun e w' => e=.returned (.int .i64 (appP d h x).1)∧HPost w0 X H w v (appP d h x).2.2 j (appP d h x).2.1 w':=by
 obtain ⟨lv,vs,ho⟩:=h0.open_
 obtain ⟨bd,rfl⟩:=h0.ptr
 obtain ⟨q,hq⟩:∃ q,q=w.heap.size:=⟨_,rfl⟩
 obtain ⟨wa,hwa⟩:∃ wa,wa=w.alloc (.cells #[.int .i64 x.trace,.int .i64 x.id,.int .i64 x.parent,.string x.service,.string x.host,.int .i64 x.start,.int .i64 x.dur,.string x.note] 47 (0,0)):=⟨_,rfl⟩
 have hba:Below w.heap.size w wa:=by rw [hwa];exact (Below.refl _ _).alloc (Nat.le_refl _) _
 have HQa:=Lib.hid (show Blk wa q 47 #[.int .i64 x.trace,.int .i64 x.id,.int .i64 x.parent,.string x.service,.string x.host,.int .i64 x.start,.int .i64 x.dur,.string x.note] by rw [hwa,hq];exact Blk.alloc_new w _ _)
 obtain ⟨X1,hX1⟩:∃ X1,X1=Also X w wa:=⟨_,rfl⟩
 have HOa:=Lib.hid (show HO w0 X1 H wa (.pointer (some ⟨bd,0,none⟩)) d j h lv vs by rw [hX1];exact ho.addX hba)
 have HXX:=Lib.hid (show ∀ k,X k→X1 k by rw [hX1];exact fun k e => .inl e)
 have HHX:=Lib.hid ho.sub
 have HXL:=Lib.hid ho.live.lt
 have HQX:=Lib.hid (show X1 q∧¬ H q from ⟨by rw [hX1,hq];exact .inr ⟨Nat.le_refl _,by rw [hwa];simp⟩,fun e => by have:=(ho.new q e).2;omega⟩)
 have HQW:=Lib.hid (show w.heap.size≤q from by omega)
 have HCa:=Lib.hid (HK.below (X:=X) (H:=H) hba)
 have HWA:=Lib.hid hwa
 have HR:=Lib.hid (hruns_any HOa.out.hs)
 rw [if_pos hrun] at HR
 have HEN:=Lib.hid (fun W:World => hencode_any (w:=W) x hs1 hs2 hs3)
 have HBZ:=Lib.hid (show w0.heap.size≤w.heap.size from ho.live.size)
 have hvs9:vs.length≤1000000:=by rw [ho.rows.len];exact hbd.many
 have hq2:spQ x=(Sp.enc x,0):=by unfold spQ;exact if_pos hm
 rw [hq2] at HEN
 have hel:=Sp.enc_len hm
 obtain ⟨E,hE⟩:∃ E:ByteArray,E=⟨(Sp.enc x).toArray⟩:=⟨_,rfl⟩
 have hEz:E.size=(Sp.enc x).length:=by rw [hE];exact List.size_toArray
 have hEd:E.data.toList=Sp.enc x:=by rw [hE]
 have HFR:=Lib.hid (fun W:World => frame_short E W (by omega))
 rw [hEd] at HFR
 simp only at HEN
 rw [← hE] at HEN
 obtain ⟨F,hF⟩:∃ F:ByteArray,F=⟨(frm x).toArray⟩:=⟨_,rfl⟩
 have hF2:(⟨(Frm.frame (Sp.enc x)).toArray⟩:ByteArray)=F:=by rw [hF];rfl
 rw [hF2] at HFR
 have hFd:F.data.toList=frm x:=by rw [hF]
 have hFl:=frm_len hm
 have hFz:F.size=(frm x).length:=by rw [hF];exact List.size_toArray
 have HL:=Lib.hid (fun (W:World) (hW:HO w0 X1 H W (.pointer (some ⟨bd,0,none⟩)) d j h lv vs) => by
  have:=hlast_any hW.blk hW.rows hbd.many
  rw [hl] at this
  rw [show lastPtr lv ([]:List Sg).length=.pointer none from lastPtr_nil lv] at this
  exact this)
 have HMN:=Lib.hid hmore
 obtain ⟨z,hz⟩:∃ z,z=beginP d h (frm x):=⟨_,rfl⟩
 obtain ⟨r,hh,dd⟩:=z
 have HBG:=Lib.hid (fun (W:World) (hW:HS w0 X1 H W (.pointer (some ⟨bd,0,none⟩)) d j h) => by
  have:=hbegin_any hW he hbd hnx F (by omega)
  rw [hFd,← hz] at this
  exact this)
 obtain ⟨nx,hnn⟩:∃ nx,nx=nextOf h.l:=⟨_,rfl⟩
 have HAPP:=Lib.hid (show (r≠0→appP d h x=(r,hh,dd))∧(r=0→appP d h x=(0,{ hh with l:=pushL hh.l x },dd)∧hh.l=h.l++[⟨nx,[]⟩]) from by
  have e1:appP d h x=if r≠0 then (r,hh,dd) else (0,{ hh with l:=pushL hh.l x },dd):=by
   have hg:h.l.getLast?=none:=by rw [hl];rfl
   unfold appP
   rw [if_neg (fun e => e hm),hg]
   simp only [← hz]
  refine ⟨fun e => by rw [e1,if_pos e],fun e => ⟨by rw [e1,if_neg (by simp [e])],?_⟩⟩
  exact begin_l hz.symm e hnn)
 have HFE:=Lib.hid (show ((frm x).length:Int)=(F.size:Int) by rw [hFz])
 have HFS:=Lib.hid (show F.size≤120 by omega)
 obtain ⟨tr,id,pa,se,ho',sa,du,no⟩:=x
 unfold spV at HEN ⊢
 simp only at HEN HQa HWA ⊢
 clear h0 hrun he hbd hs1 hs2 hs3 hm ho hwa hba hX1 hq2 hvs9 hE hEz hEd hel hF hF2 hFd hFl hFz hl hz hnx hnn hmore
 go_enter Tryz.func20,Tryz.ntmps20
 go_wp2_with fail
 rw [← HWA.out,← hq]
 clear hq
 refine HR.out.mono ?_
 rintro e w1 ⟨rfl,hb1⟩
 have HO1:=Lib.hid (HOa.out.below hb1)
 have HC1:=Lib.hid (HCa.out.trans (HK.below hb1))
 have HQ1:=Lib.hid (HQa.out.below hb1)
 clear hb1
 have a:=HQ1.out.cell 0
 have a1:=HQ1.out.cell 1
 have a2:=HQ1.out.cell 2
 have a3:=HQ1.out.cell 3
 have a4:=HQ1.out.cell 4
 have a5:=HQ1.out.cell 5
 have a6:=HQ1.out.cell 6
 have a7:=HQ1.out.cell 7
 simp at a a1 a2 a3 a4 a5 a6 a7
 go_wp2_with fail
 refine (HEN.out w1).mono ?_
 rintro e w2 ⟨rfl,hb2⟩
 have HO2:=Lib.hid (HO1.out.below hb2)
 have HC2:=Lib.hid (HC1.out.trans (HK.below hb2))
 have HQ2':=Lib.hid (HQ1.out.below hb2)
 clear hb2 a a1 a2 a3 a4 a5 a6 a7
 go_wp2_with fail
 refine (HFR.out w2).mono ?_
 rintro e w3 ⟨rfl,hb3⟩
 have HO3:=Lib.hid (HO2.out.below hb3)
 have HC3:=Lib.hid (HC2.out.trans (HK.below hb3))
 have HQ3:=Lib.hid (HQ2'.out.below hb3)
 clear hb3
 go_wp2_with fail
 refine (HL.out w3 HO3.out).mono ?_
 rintro e w4 ⟨rfl,hb4⟩
 have HO4:=Lib.hid (HO3.out.below hb4)
 have HC4:=Lib.hid (HC3.out.trans (HK.below hb4))
 have HQ4:=Lib.hid (HQ3.out.below hb4)
 clear hb4
 go_wp2_with fail
 refine (HBG.out w4 HO4.out.hs).mono ?_
 rintro e w5 ⟨rfl,N1,hN1,hs5,hk5⟩
 have HC5:=Lib.hid (HK.trans HC4.out (HK.wide HXX.out hk5))
 have HQ5:=Lib.hid (HQ4.out.chg hk5 (fun e => e.elim (fun e => e HQX.out.1) HQX.out.2))
 have HQ2:=Lib.hid (show Plus X1 N1 q∧¬ Plus H N1 q from ⟨.inl HQX.out.1,fun e => e.elim HQX.out.2 fun e => by have:=(hN1 q e).1;have:=HQ4.out.lt;omega⟩)
 have HXA:=Lib.hid (show (∀ k,X k→Plus X1 N1 k)∧(∀ (x0:World),w5.heap.size≤x0.heap.size→∀ k,Plus H N1 k→H k∨(w.heap.size≤k∧k<x0.heap.size))∧(∀ k,H k→Plus H N1 k) from ⟨fun k e => .inl (HXX.out k e),fun x0 hx0 k e => e.elim .inl fun e => .inr ⟨Nat.le_trans HC4.out.size (hN1 k e).1,Nat.lt_of_lt_of_le (hN1 k e).2 hx0⟩,fun k e => .inl e⟩)
 by_cases hr0:r=0
 case neg =>
  have t1:(r == 0)=false:=beq_eq_false_iff_ne.2 hr0
  have HV:=Lib.hid (HAPP.out.1 hr0)
  have HS5:=Lib.hid hs5
  clear hs5 hk5
  go_wp2_with fail
  go_ret
  rw [HV.out]
  refine ⟨rfl,N1,fun k hk => ⟨Nat.le_trans HC4.out.size (hN1 k hk).1,(hN1 k hk).2⟩,?_,HC5.out⟩
  obtain ⟨lv5,vs5,ho5⟩:=HS5.out.open_
  exact (ho5.dropX (fun k hk => hk.elim (fun e => .inl (HXX.out k e)) .inr) (fun k hk => hk.elim (fun e => .inl (HHX.out k e)) .inr)).hs
 case pos =>
  subst hr0
  obtain ⟨HV0,HHL⟩:=HAPP.out.2 rfl
  have HV:=Lib.hid HV0
  obtain ⟨lv5,vs5,ho5⟩:=hs5.open_
  obtain ⟨g,c,sx,sc,ex,ec,hlv,hlp,_,_,hi,hvs⟩:=ho5.last HHL
  have HL5:=Lib.hid (show Calls Tryz.prog 77 #[.pointer (some ⟨j,0,none⟩)] w5 fun e w' => e=.returned (.pointer (some ⟨g,h.l.length*3,none⟩))∧Below w5.heap.size w5 w' from by
   have:=hlast_any ho5.blk ho5.rows (by rw [HHL];have:=HMN.out;simp;omega)
   rw [hlp] at this
   exact this)
  obtain ⟨n,hn⟩:∃ n,n=h.l.length:=⟨_,rfl⟩
  obtain ⟨sn,hsn⟩:∃ sn:Nat,sn=([]:List Sp.Span).length:=⟨_,rfl⟩
  have HLL:=Lib.hid (show hh.l=h.l++[⟨nx,[]⟩]∧n=h.l.length∧lv5=.slice (some ⟨g,0,none⟩) (n+1) c∧∃ hi:n<vs5.length,vs5[n]=⟨nx,.slice sx sn sc,.slice ex sn ec⟩ by subst hn;subst hsn;exact ⟨HHL,rfl,hlv,hi,hvs⟩)
  have HO5:=Lib.hid ho5
  rw [← hn] at HL5
  have HBS:=Lib.hid (show (∀ y∈([]:List Sp.Span),Sp.May y)∧([]:List Sp.Span).length≤1000000 from ⟨fun y hy => (by cases hy),by simp⟩)
  obtain ⟨xs,hxs⟩:∃ xs:List Sp.Span,xs=[]:=⟨_,rfl⟩
  rw [← hxs] at HLL HBS
  obtain ⟨init,hin⟩:∃ init,init=h.l:=⟨_,rfl⟩
  obtain ⟨fn,hfn⟩:∃ fn,fn=nx:=⟨_,rfl⟩
  rw [← hin,← hfn] at HLL
  have HW:=Lib.hid (show ({ hh with l:=init++[⟨fn,xs++[⟨tr,id,pa,se,ho',sa,du,no⟩]⟩] }:Hl)={ hh with l:=pushL hh.l ⟨tr,id,pa,se,ho',sa,du,no⟩ } by rw [HHL,pushL_snoc,hin,hfn,hxs])
  rw [← HW.out] at HV
  clear hs5 hk5 hN1 HV0 HHL ho5 hlv hlp hi hvs hn hsn hxs hin hfn
  go_wp2_with fail
  refine HL5.out.mono ?_
  rintro e w6 ⟨rfl,hb6⟩
  have HO6:=Lib.hid (HO5.out.below hb6)
  have HC6:=Lib.hid (HC5.out.trans (HK.below hb6))
  have HQ6:=Lib.hid (HQ5.out.below hb6)
  have HZ56:=Lib.hid hb6.size
  clear hb6
  go_wp2_with fail
  obtain ⟨x0,hx0⟩:∃ x0,x0=(w6).drew:=⟨_,rfl⟩
  have hb01:Below (w6).heap.size w6 x0:=by rw [hx0];exact (Below.refl _ _).drew
  have HO0:=Lib.hid (HO.below HO6.out hb01)
  have HC0:=Lib.hid (HK.trans HC6.out (HK.below hb01))
  have HQ0:=Lib.hid (Blk.below HQ6.out hb01)
  have HBZ:=Lib.hid (show w0.heap.size≤x0.heap.size from HO0.out.live.size)
  obtain ⟨hll,hnn,hlv,hii,hvs⟩:=HLL.out
  have hsg:SegAt w0.heap.size x0 ⟨fn,.slice sx sn sc,.slice ex sn ec⟩ ⟨fn,xs⟩:=by
   have h5:=HO0.out.rows.each n hii (by rw [hll,hnn];simp)
   rw [hvs] at h5
   have e5:(hh.l)[n]'(by rw [hll,hnn];simp)=⟨fn,xs⟩:=by simp [hll,hnn]
   rw [e5] at h5
   exact h5
  have HPx0:=Lib.hid (show Pend w0 x0 x0 (.slice sx sn sc) (.slice ex sn ec) xs ⟨tr,id,pa,se,ho',sa,du,no⟩ none none from Pend.start hsg.spans hsg.ends)
  have HSV:=Lib.hid (fun k (hk:(Value.slice sx sn sc).ownBlock=some k) => (OwnRow.lt hsg.spans k hk).2)
  have HEV:=Lib.hid (fun k (hk:(Value.slice ex sn ec).ownBlock=some k) => (hsg.ends.lt' k hk).2)
  have HTT:=Lib.hid (fun (V:World) (hV:Chg (fun k => (Value.slice sx sn sc).ownBlock=some k∨(Value.slice ex sn ec).ownBlock=some k) x0 V) => show V.cell? ⟨q,0,none⟩=some (.int .i64 tr)∧V.cell? ⟨q,1,none⟩=some (.int .i64 id)∧V.cell? ⟨q,2,none⟩=some (.int .i64 pa)∧V.cell? ⟨q,3,none⟩=some (.string se)∧V.cell? ⟨q,4,none⟩=some (.string ho')∧V.cell? ⟨q,5,none⟩=some (.int .i64 sa)∧V.cell? ⟨q,6,none⟩=some (.int .i64 du)∧V.cell? ⟨q,7,none⟩=some (.string no) from by
   have k:=HQ0.out.chg hV (fun e => HQ2.out.2 (HO0.out.inSeg hii hvs e))
   exact ⟨k.cell 0,k.cell 1,k.cell 2,k.cell 3,k.cell 4,k.cell 5,k.cell 6,k.cell 7⟩)
  have HSS:=Lib.hid (fun (V:World) (hV:Chg (fun k => (Value.slice sx sn sc).ownBlock=some k∨(Value.slice ex sn ec).ownBlock=some k) x0 V) => (HO0.out.still hlv hii hvs hV).1)
  have HFZ:=Lib.hid (fun (V:World) (hV:Chg (fun k => (Value.slice sx sn sc).ownBlock=some k∨(Value.slice ex sn ec).ownBlock=some k) x0 V) => (HO0.out.still hlv hii hvs hV).2)
  have HTS:=Lib.hid (fun (V V2:World) (hV:Chg (fun k => (Value.slice sx sn sc).ownBlock=some k∨(Value.slice ex sn ec).ownBlock=some k) x0 V) (hV2:Chg (fun k => k=g) V V2) => show V2.cell? ⟨q,0,none⟩=some (.int .i64 tr)∧V2.cell? ⟨q,1,none⟩=some (.int .i64 id)∧V2.cell? ⟨q,2,none⟩=some (.int .i64 pa)∧V2.cell? ⟨q,3,none⟩=some (.string se)∧V2.cell? ⟨q,4,none⟩=some (.string ho')∧V2.cell? ⟨q,5,none⟩=some (.int .i64 sa)∧V2.cell? ⟨q,6,none⟩=some (.int .i64 du)∧V2.cell? ⟨q,7,none⟩=some (.string no) from by
   have k:=(HQ0.out.chg hV (fun e => HQ2.out.2 (HO0.out.inSeg hii hvs e))).chg hV2 (fun e => HQ2.out.2 (HO0.out.inH q (.inr (.inl (by rw [hlv,e];rfl)))))
   exact ⟨k.cell 0,k.cell 1,k.cell 2,k.cell 3,k.cell 4,k.cell 5,k.cell 6,k.cell 7⟩)
  have HFN:=Lib.hid (fun (V:World) (u1 u2:Value) (hp:Pend w0 x0 V (.slice sx sn sc) (.slice ex sn ec) xs ⟨tr,id,pa,se,ho',sa,du,no⟩ (some u1) (some u2)) (V2:World) (hV2:V2=(V.setCell ⟨g,n*3+1,none⟩ u1).setCell ⟨g,n*3+2,none⟩ u2) => show HPost w0 X H w (.pointer (some ⟨bd,0,none⟩)) dd j { hh with l:=init++[⟨fn,xs++[⟨tr,id,pa,se,ho',sa,du,no⟩]⟩] } V2 from by
   obtain ⟨N,vs',hN,hO,hKK⟩:=HO0.out.finish' hll hnn hlv hii hvs hp hV2
   exact HO.post HXA.out.1 (HXA.out.2.1 x0 (by have:=HZ56.out;have:=hb01.size;omega)) HHX.out HXA.out.2.2 HXL.out HC0.out HO0.out.sub hN hO hKK)
  have HMX:=Lib.hid (show ∀ y∈xs,Sp.May y from fun y hy => HBS.out.1 y hy)
  have HXN:=Lib.hid (HBS.out.2)
  have htl:=(sgT_len xs HMX.out).2
  have HTL:=Lib.hid (show (sgT xs).length≤1000000000 by have:=HXN.out;omega)
  obtain ⟨tot,htot⟩:∃ tot,tot=(sgT xs).length+F.size:=⟨_,rfl⟩
  have hadd:((sgT xs).length:Int)+(F.size:Int)=(tot:Int):=by omega
  have hwr:IntKind.i64.wrap (tot:Int)=tot:=by rw [IntKind.wrap_i64];have:=HTL.out;have:=HFS.out;omega
  have HEQ:=Lib.hid (show sgEnds (xs++[⟨tr,id,pa,se,ho',sa,du,no⟩])=sgEnds xs++[(tot:Int)] by rw [sgEnds_snoc,HFE.out,hadd])
  have hT:=HTT.out x0 (Chg.refl _ _)
  have hS:=HSS.out x0 (Chg.refl _ _)
  clear hll hnn hlv hii hvs hsg htl htot hb01
  refine wp_region_two (T:=fun W => W.cell? ⟨q,0,none⟩=some (.int .i64 tr)∧W.cell? ⟨q,1,none⟩=some (.int .i64 id)∧W.cell? ⟨q,2,none⟩=some (.int .i64 pa)∧W.cell? ⟨q,3,none⟩=some (.string se)∧W.cell? ⟨q,4,none⟩=some (.string ho')∧W.cell? ⟨q,5,none⟩=some (.int .i64 sa)∧W.cell? ⟨q,6,none⟩=some (.int .i64 du)∧W.cell? ⟨q,7,none⟩=some (.string no)) (S:=fun W => W.cell? ⟨g,n*3,none⟩=some (.int .i64 fn)∧W.cell? ⟨g,n*3+1,none⟩=some (.slice sx sn sc)∧W.cell? ⟨g,n*3+2,none⟩=some (.slice ex sn ec)) (n:=24) (by kernel_rfl) ?_
  rw [← hx0]
  clear hx0
  refine tk 0 63 hT hS ?_
  refine tk 1 64 hT hS ?_
  try simp only [xq]
  refine tk 2 65 hT hS ?_
  refine tk 3 66 hT hS ?_
  try simp only [xq]
  refine tk 4 67 hT hS ?_
  try simp only [xq]
  refine two_take 5 (some 68) (v:=?_) rfl rfl (by kernel_rfl) (by kernel_rfl) (by kernel_rfl) (by kernel_rfl) (by decide) (by kernel_rfl) (fun _ _ _ h => h) (Or.inl ⟨by rfl,?hy5⟩) hT hS ?_
  case hy5 => (intro w' hS';go_simp;(try with_reducible rfl))
  try simp only [xq]
  refine tk 6 69 hT hS ?_
  refine tk 9 72 hT hS ?_
  try simp only [xq]
  refine tk 10 73 hT hS ?_
  refine tk 11 74 hT hS ?_
  try simp only [xq]
  refine two_take 12 (some 75) (v:=?_) rfl rfl (by kernel_rfl) (by kernel_rfl) (by kernel_rfl) (by kernel_rfl) (by decide) (by kernel_rfl) (fun _ _ _ h => h) (Or.inl ⟨by rfl,?hy12⟩) hT hS ?_
  case hy12 => (intro w' hS';go_simp;(try with_reducible rfl))
  try simp only [xq]
  refine tk 13 76 hT hS ?_
  refine tk 14 77 hT hS ?_
  try simp only [xq]
  refine two_take 15 (some 78) (v:=?_) rfl rfl (by kernel_rfl) (by kernel_rfl) (by kernel_rfl) (by kernel_rfl) (by decide) (by kernel_rfl) (fun _ _ _ h => h) (Or.inl ⟨by rfl,?hy15⟩) hT hS ?_
  case hy15 => (intro w' hS';go_simp;(try with_reducible rfl))
  try simp only [xq]
  refine tk 17 80 hT hS ?_
  refine tk 18 81 hT hS ?_
  try simp only [xq]
  refine two_one 7 rfl (by kernel_rfl) ?_
  intro K hK
  go_simp
  obtain ⟨y0,hy0⟩:∃ y,y=x0.alloc (.cells #[.int .i64 tr,.int .i64 id,.int .i64 pa,.string se,.string ho',.int .i64 sa,.int .i64 du,.string no] 47 (0,0)):=⟨_,rfl⟩
  rw [← hy0]
  have hby0:Below x0.heap.size x0 y0:=by rw [hy0];exact (Below.refl _ _).alloc (Nat.le_refl _) _
  have HAy0:=Lib.hid (show Blk y0 x0.heap.size 47 #[.int .i64 tr,.int .i64 id,.int .i64 pa,.string se,.string ho',.int .i64 sa,.int .i64 du,.string no] by rw [hy0];exact Blk.alloc_new x0 _ _)
  have HAZ:=Lib.hid (show x0.heap.size≤x0.heap.size from HPx0.out.size)
  have HPy0:=Lib.hid (HPx0.out.below hby0)
  clear hy0 hby0
  have hT1:=HTT.out y0 HPy0.out.chg
  have hS1:=HSS.out y0 HPy0.out.chg
  refine hK.out _ _ hT1 (fun _ _ => hS1) ?_
  clear hK K hT hS
  have hT:=hT1
  have hS:=hS1
  clear hT1 hS1
  try simp only [xq]
  refine two_one 8 rfl (by kernel_rfl) ?_
  intro K hK
  refine step_append_rows rfl (.tmp 68) (.tmp 70) (by rfl) spRow_len (by omega) under_spans Tryz.info_span rfl (by omega) (show OwnSp y0 w0.heap.size (.slice sx sn sc) xs from HPy0.out.sp) (by rfl) (m:=[⟨tr,id,pa,se,ho',sa,du,no⟩]) (by rfl) (RdRow.one HAy0.out rfl) (fun a _ => spRow_one a) (by have:=HXN.out;simp;omega) (by have:=HXN.out;simp;omega) (Nat.le_trans HBZ.out HPy0.out.size) ?_
  intro u1 y1 hown hgr hb
  have HPy1:=Lib.hid (HPy0.out.spans hown hgr hb)
  obtain ⟨u1x,u1c,hu⟩:=OwnRow.shape hown
  obtain ⟨u1n,hun⟩:∃ u1n,u1n=(xs++[(⟨tr,id,pa,se,ho',sa,du,no⟩:Sp.Span)]).length:=⟨_,rfl⟩
  rw [← hun] at hu
  subst hu
  clear hown hgr hb hun
  have hT1:=HTT.out y1 HPy1.out.chg
  have hS1:=HSS.out y1 HPy1.out.chg
  refine hK.out _ _ hT1 (fun _ _ => hS1) ?_
  clear hK K hT hS
  have hT:=hT1
  have hS:=hS1
  clear hT1 hS1
  try simp only [xq]
  refine two_one 16 rfl (by kernel_rfl) ?_
  intro K hK
  go_simp
  refine (segEnd_any (w:=y1) (n:=fn) sx sn sc (show OwnI y1 w0.heap.size (.slice ex sn ec) (sgEnds xs) from HPy1.out.en) HMX.out HTL.out).mono ?_
  rintro e y2 ⟨rfl,hb⟩
  have HPy2:=Lib.hid (HPy1.out.below hb)
  clear hb
  have hT1:=HTT.out y2 HPy2.out.chg
  have hS1:=HSS.out y2 HPy2.out.chg
  refine hK.out _ _ hT1 (fun _ _ => hS1) ?_
  clear hK K hT hS
  have hT:=hT1
  have hS:=hS1
  clear hT1 hS1
  try simp only [xq]
  refine tk 19 82 hT hS ?_
  try simp only [xq]
  refine two_one 20 rfl (by kernel_rfl) ?_
  intro K hK
  go_simp
  obtain ⟨y3,hy3⟩:∃ y,y=y2.alloc (.cells #[.int .i64 tot] 3 (0,0)):=⟨_,rfl⟩
  rw [← hy3]
  have hby3:Below y2.heap.size y2 y3:=by rw [hy3];exact (Below.refl _ _).alloc (Nat.le_refl _) _
  have HIy3:=Lib.hid (show Blk y3 y2.heap.size 3 #[.int .i64 tot] by rw [hy3];exact Blk.alloc_new y2 _ _)
  have HIZ:=Lib.hid (show x0.heap.size≤y2.heap.size from HPy2.out.size)
  have HPy3:=Lib.hid (HPy2.out.below hby3)
  clear hy3 hby3
  have hT1:=HTT.out y3 HPy3.out.chg
  have hS1:=HSS.out y3 HPy3.out.chg
  refine hK.out _ _ hT1 (fun _ _ => hS1) ?_
  clear hK K hT hS
  have hT:=hT1
  have hS:=hS1
  clear hT1 hS1
  try simp only [xq]
  refine two_one 21 rfl (by kernel_rfl) ?_
  intro K hK
  refine step_append_rows rfl (.tmp 75) (.tmp 83) (by rfl) iRow_len (by omega) under_ints Tryz.info_int rfl (by omega) (ownI_row (show OwnI y3 w0.heap.size (.slice ex sn ec) (sgEnds xs) from HPy3.out.en)) (by rfl) (m:=[(tot:Int)]) (by rfl) (RdRow.one HIy3.out rfl) (fun a _ u hu => iRow_one a u hu) (by rw [sgEnds_length];have:=HXN.out;simp;omega) (by rw [sgEnds_length];have:=HXN.out;simp;omega) (Nat.le_trans HBZ.out HPy3.out.size) ?_
  intro u2 y4 hown hgr hb
  have hown2:OwnI y4 w0.heap.size u2 (sgEnds (xs++[⟨tr,id,pa,se,ho',sa,du,no⟩])):=by rw [HEQ.out];exact ownI_of hown
  have HPy4:=Lib.hid (HPy3.out.ends hown2 hgr hb)
  obtain ⟨u2x,u2c,hu⟩:=OwnRow.shape hown
  obtain ⟨u2n,hun⟩:∃ u2n,u2n=(sgEnds xs++[(tot:Int)]).length:=⟨_,rfl⟩
  rw [← hun] at hu
  subst hu
  clear hown hown2 hgr hb hun
  have hT1:=HTT.out y4 HPy4.out.chg
  have hS1:=HSS.out y4 HPy4.out.chg
  refine hK.out _ _ hT1 (fun _ _ => hS1) ?_
  clear hK K hT hS
  have hT:=hT1
  have hS:=hS1
  clear hT1 hS1
  try simp only [xq]
  refine tk 22 85 hT hS ?_
  refine tk 23 86 hT hS ?_
  try simp only [xq]
  obtain ⟨f1,f2⟩:=HFZ.out y4 HPy4.out.chg
  refine two_one 24 rfl (by kernel_rfl) ?_
  intro K hK
  go_simp
  obtain ⟨z1,hz1⟩:∃ z1,z1=y4.setCell ⟨g,n*3+1,none⟩ (.slice u1x u1n u1c):=⟨_,rfl⟩
  rw [← hz1]
  have hT1:=HTS.out y4 z1 HPy4.out.chg (by rw [hz1];exact (Chg.refl (fun k => k=g) y4).setCell (p:=⟨g,_,none⟩) (fun _ => rfl) _)
  have f3:z1.frozen? ⟨g,n*3+2,none⟩=false:=by rw [hz1];simpa using f2
  have c3:z1.cell? ⟨g,n*3+2,none⟩=some (.slice ex sn ec):=by rw [hz1];exact (World.cell?_setCell_other _ _ _ _ (by intro e;injection e with _ e _;omega)).trans hS.2.2
  refine hK.out _ _ hT1 (fun _ e => absurd rfl e) ?_
  have HZ1:=Lib.hid hz1
  clear hK K hT hS f1 f2 hz1
  have hT:=hT1
  clear hT1
  try simp only [xq]
  refine two_one 25 rfl (by kernel_rfl) ?_
  intro K hK
  go_simp
  refine hK.out _ _ hT (fun e _ => by exact absurd e (by decide)) ?_
  clear hK K
  try simp only [xq]
  refine two_one 26 rfl (by kernel_rfl) ?_
  intro K hK
  go_simp
  refine hK.out _ _ hT (fun e _ => by exact absurd e (by decide)) ?_
  clear hK K
  try simp only [xq]
  refine two_one 27 rfl (by kernel_rfl) ?_
  intro K hK
  go_simp
  obtain ⟨z2,hz2⟩:∃ z2,z2=z1.setCell ⟨g,n*3+2,none⟩ (.slice u2x u2n u2c):=⟨_,rfl⟩
  rw [← hz2]
  have hT2:=HTS.out y4 z2 HPy4.out.chg (by rw [hz2,HZ1.out];exact ((Chg.refl (fun k => k=g) y4).setCell (p:=⟨g,_,none⟩) (fun _ => rfl) _).setCell (p:=⟨g,_,none⟩) (fun _ => rfl) _)
  have HZZ:=Lib.hid (HFN.out y4 _ _ HPy4.out z2 (by rw [hz2,HZ1.out]))
  refine hK.out _ _ hT2 (fun e _ => by exact absurd e (by decide)) ?_
  clear hK K hT hT2 f3 c3 hz2
  try simp only [xq]
  refine two_done (by kernel_rfl) ?_ _
  go_wp2_with fail
  go_ret
  rw [HV.out]
  exact ⟨rfl,HZZ.out⟩
set_option maxHeartbeats 64000000 in
theorem happend_new (h0:HS w0 X H w v d j h) (hrun:h.runs d) (he:LEnv w0) (hbd:SgsBnd h.l) (hmore:h.l.length<1000000) (hnx:nextOf h.l≤999999999) (x:Sp.Span) (hs1:x.service.size≤maxLen) (hs2:x.host.size≤maxLen) (hs3:x.note.size≤maxLen) (hm:Sp.May x)
  {init0:List Sg} {a:Sg} (hl:h.l=init0++[a]) (h16:¬ a.spans.length<16) :
  Calls Tryz.prog 20 #[.pointer (some ⟨j,0,none⟩),spV x] w fun e w' => e=.returned (.int .i64 (appP d h x).1)∧HPost w0 X H w v (appP d h x).2.2 j (appP d h x).2.1 w':=by
 obtain ⟨lv,vs,ho⟩:=h0.open_
 obtain ⟨bd,rfl⟩:=h0.ptr
 obtain ⟨q,hq⟩:∃ q,q=w.heap.size:=⟨_,rfl⟩
 obtain ⟨wa,hwa⟩:∃ wa,wa=w.alloc (.cells #[.int .i64 x.trace,.int .i64 x.id,.int .i64 x.parent,.string x.service,.string x.host,.int .i64 x.start,.int .i64 x.dur,.string x.note] 47 (0,0)):=⟨_,rfl⟩
 have hba:Below w.heap.size w wa:=by rw [hwa];exact (Below.refl _ _).alloc (Nat.le_refl _) _
 have HQa:=Lib.hid (show Blk wa q 47 #[.int .i64 x.trace,.int .i64 x.id,.int .i64 x.parent,.string x.service,.string x.host,.int .i64 x.start,.int .i64 x.dur,.string x.note] by rw [hwa,hq];exact Blk.alloc_new w _ _)
 obtain ⟨X1,hX1⟩:∃ X1,X1=Also X w wa:=⟨_,rfl⟩
 have HOa:=Lib.hid (show HO w0 X1 H wa (.pointer (some ⟨bd,0,none⟩)) d j h lv vs by rw [hX1];exact ho.addX hba)
 have HXX:=Lib.hid (show ∀ k,X k→X1 k by rw [hX1];exact fun k e => .inl e)
 have HHX:=Lib.hid ho.sub
 have HXL:=Lib.hid ho.live.lt
 have HQX:=Lib.hid (show X1 q∧¬ H q from ⟨by rw [hX1,hq];exact .inr ⟨Nat.le_refl _,by rw [hwa];simp⟩,fun e => by have:=(ho.new q e).2;omega⟩)
 have HQW:=Lib.hid (show w.heap.size≤q from by omega)
 have HCa:=Lib.hid (HK.below (X:=X) (H:=H) hba)
 have HWA:=Lib.hid hwa
 have HR:=Lib.hid (hruns_any HOa.out.hs)
 rw [if_pos hrun] at HR
 have HEN:=Lib.hid (fun W:World => hencode_any (w:=W) x hs1 hs2 hs3)
 have HBZ:=Lib.hid (show w0.heap.size≤w.heap.size from ho.live.size)
 have hvs9:vs.length≤1000000:=by rw [ho.rows.len];exact hbd.many
 have hq2:spQ x=(Sp.enc x,0):=by unfold spQ;exact if_pos hm
 rw [hq2] at HEN
 have hel:=Sp.enc_len hm
 obtain ⟨E,hE⟩:∃ E:ByteArray,E=⟨(Sp.enc x).toArray⟩:=⟨_,rfl⟩
 have hEz:E.size=(Sp.enc x).length:=by rw [hE];exact List.size_toArray
 have hEd:E.data.toList=Sp.enc x:=by rw [hE]
 have HFR:=Lib.hid (fun W:World => frame_short E W (by omega))
 rw [hEd] at HFR
 simp only at HEN
 rw [← hE] at HEN
 obtain ⟨F,hF⟩:∃ F:ByteArray,F=⟨(frm x).toArray⟩:=⟨_,rfl⟩
 have hF2:(⟨(Frm.frame (Sp.enc x)).toArray⟩:ByteArray)=F:=by rw [hF];rfl
 rw [hF2] at HFR
 have hFd:F.data.toList=frm x:=by rw [hF]
 have hFl:=frm_len hm
 have hFz:F.size=(frm x).length:=by rw [hF];exact List.size_toArray
 obtain ⟨g',c',sx',sc',ex',ec',hlv',hlp,_,_,hi',hvs'⟩:=ho.last hl
 have HL:=Lib.hid (fun (W:World) (hW:HO w0 X1 H W (.pointer (some ⟨bd,0,none⟩)) d j h lv vs) => by
  have:=hlast_any hW.blk hW.rows hbd.many
  rw [hlp] at this
  exact this)
 have HTC:=Lib.hid (fun (W:World) (y:HO w0 X1 H W (.pointer (some ⟨bd,0,none⟩)) d j h lv vs) => by
  have:=y.cells hlv' init0.length hi'
  rw [hvs'] at this
  exact this)
 obtain ⟨n0,hn0⟩:∃ n0,n0=init0.length:=⟨_,rfl⟩
 obtain ⟨sm,hsm⟩:∃ sm,sm=a.spans.length:=⟨_,rfl⟩
 simp only [← hn0,← hsm] at HL HTC
 have hs16:¬ (sm:Int)<16:=by omega
 have hs16':(16:Int)≤(sm:Int):=by omega
 have HMN:=Lib.hid hmore
 obtain ⟨z,hz⟩:∃ z,z=beginP d h (frm x):=⟨_,rfl⟩
 obtain ⟨r,hh,dd⟩:=z
 have HBG:=Lib.hid (fun (W:World) (hW:HS w0 X1 H W (.pointer (some ⟨bd,0,none⟩)) d j h) => by
  have:=hbegin_any hW he hbd hnx F (by omega)
  rw [hFd,← hz] at this
  exact this)
 obtain ⟨nx,hnn⟩:∃ nx,nx=nextOf h.l:=⟨_,rfl⟩
 have HAPP:=Lib.hid (show (r≠0→appP d h x=(r,hh,dd))∧(r=0→appP d h x=(0,{ hh with l:=pushL hh.l x },dd)∧hh.l=h.l++[⟨nx,[]⟩]) from by
  have e1:appP d h x=if r≠0 then (r,hh,dd) else (0,{ hh with l:=pushL hh.l x },dd):=by
   have hg:h.l.getLast?=some a:=by rw [hl,getLast_snoc]
   unfold appP
   rw [if_neg (fun e => e hm),hg]
   simp only [if_neg h16,← hz]
  refine ⟨fun e => by rw [e1,if_pos e],fun e => ⟨by rw [e1,if_neg (by simp [e])],?_⟩⟩
  exact begin_l hz.symm e hnn)
 have HFE:=Lib.hid (show ((frm x).length:Int)=(F.size:Int) by rw [hFz])
 have HFS:=Lib.hid (show F.size≤120 by omega)
 obtain ⟨tr,id,pa,se,ho',sa,du,no⟩:=x
 unfold spV at HEN ⊢
 simp only at HEN HQa HWA ⊢
 clear h0 hrun he hbd hs1 hs2 hs3 hm ho hwa hba hX1 hq2 hvs9 hE hEz hEd hel hF hF2 hFd hFl hFz hl hz hnx hnn hmore hlv' hlp hi' hvs' hn0 hsm h16
 go_enter Tryz.func20,Tryz.ntmps20
 go_wp2_with fail
 rw [← HWA.out,← hq]
 clear hq
 refine HR.out.mono ?_
 rintro e w1 ⟨rfl,hb1⟩
 have HO1:=Lib.hid (HOa.out.below hb1)
 have HC1:=Lib.hid (HCa.out.trans (HK.below hb1))
 have HQ1:=Lib.hid (HQa.out.below hb1)
 clear hb1
 have a:=HQ1.out.cell 0
 have a1:=HQ1.out.cell 1
 have a2:=HQ1.out.cell 2
 have a3:=HQ1.out.cell 3
 have a4:=HQ1.out.cell 4
 have a5:=HQ1.out.cell 5
 have a6:=HQ1.out.cell 6
 have a7:=HQ1.out.cell 7
 simp at a a1 a2 a3 a4 a5 a6 a7
 go_wp2_with fail
 refine (HEN.out w1).mono ?_
 rintro e w2 ⟨rfl,hb2⟩
 have HO2:=Lib.hid (HO1.out.below hb2)
 have HC2:=Lib.hid (HC1.out.trans (HK.below hb2))
 have HQ2':=Lib.hid (HQ1.out.below hb2)
 clear hb2 a a1 a2 a3 a4 a5 a6 a7
 go_wp2_with fail
 refine (HFR.out w2).mono ?_
 rintro e w3 ⟨rfl,hb3⟩
 have HO3:=Lib.hid (HO2.out.below hb3)
 have HC3:=Lib.hid (HC2.out.trans (HK.below hb3))
 have HQ3:=Lib.hid (HQ2'.out.below hb3)
 clear hb3
 go_wp2_with fail
 refine (HL.out w3 HO3.out).mono ?_
 rintro e w4 ⟨rfl,hb4⟩
 have HO4:=Lib.hid (HO3.out.below hb4)
 have HC4:=Lib.hid (HC3.out.trans (HK.below hb4))
 have HQ4:=Lib.hid (HQ3.out.below hb4)
 clear hb4
 obtain ⟨_,_,p1,_⟩:=HTC.out w4 HO4.out
 go_wp2_with fail
 clear p1
 refine (HBG.out w4 HO4.out.hs).mono ?_
 rintro e w5 ⟨rfl,N1,hN1,hs5,hk5⟩
 have HC5:=Lib.hid (HK.trans HC4.out (HK.wide HXX.out hk5))
 have HQ5:=Lib.hid (HQ4.out.chg hk5 (fun e => e.elim (fun e => e HQX.out.1) HQX.out.2))
 have HQ2:=Lib.hid (show Plus X1 N1 q∧¬ Plus H N1 q from ⟨.inl HQX.out.1,fun e => e.elim HQX.out.2 fun e => by have:=(hN1 q e).1;have:=HQ4.out.lt;omega⟩)
 have HXA:=Lib.hid (show (∀ k,X k→Plus X1 N1 k)∧(∀ (x0:World),w5.heap.size≤x0.heap.size→∀ k,Plus H N1 k→H k∨(w.heap.size≤k∧k<x0.heap.size))∧(∀ k,H k→Plus H N1 k) from ⟨fun k e => .inl (HXX.out k e),fun x0 hx0 k e => e.elim .inl fun e => .inr ⟨Nat.le_trans HC4.out.size (hN1 k e).1,Nat.lt_of_lt_of_le (hN1 k e).2 hx0⟩,fun k e => .inl e⟩)
 by_cases hr0:r=0
 case neg =>
  have t1:(r == 0)=false:=beq_eq_false_iff_ne.2 hr0
  have HV:=Lib.hid (HAPP.out.1 hr0)
  have HS5:=Lib.hid hs5
  clear hs5 hk5
  go_wp2_with fail
  go_ret
  rw [HV.out]
  refine ⟨rfl,N1,fun k hk => ⟨Nat.le_trans HC4.out.size (hN1 k hk).1,(hN1 k hk).2⟩,?_,HC5.out⟩
  obtain ⟨lv5,vs5,ho5⟩:=HS5.out.open_
  exact (ho5.dropX (fun k hk => hk.elim (fun e => .inl (HXX.out k e)) .inr) (fun k hk => hk.elim (fun e => .inl (HHX.out k e)) .inr)).hs
 case pos =>
  subst hr0
  obtain ⟨HV0,HHL⟩:=HAPP.out.2 rfl
  have HV:=Lib.hid HV0
  obtain ⟨lv5,vs5,ho5⟩:=hs5.open_
  obtain ⟨g,c,sx,sc,ex,ec,hlv,hlp,_,_,hi,hvs⟩:=ho5.last HHL
  have HL5:=Lib.hid (show Calls Tryz.prog 77 #[.pointer (some ⟨j,0,none⟩)] w5 fun e w' => e=.returned (.pointer (some ⟨g,h.l.length*3,none⟩))∧Below w5.heap.size w5 w' from by
   have:=hlast_any ho5.blk ho5.rows (by rw [HHL];have:=HMN.out;simp;omega)
   rw [hlp] at this
   exact this)
  obtain ⟨n,hn⟩:∃ n,n=h.l.length:=⟨_,rfl⟩
  obtain ⟨sn,hsn⟩:∃ sn:Nat,sn=([]:List Sp.Span).length:=⟨_,rfl⟩
  have HLL:=Lib.hid (show hh.l=h.l++[⟨nx,[]⟩]∧n=h.l.length∧lv5=.slice (some ⟨g,0,none⟩) (n+1) c∧∃ hi:n<vs5.length,vs5[n]=⟨nx,.slice sx sn sc,.slice ex sn ec⟩ by subst hn;subst hsn;exact ⟨HHL,rfl,hlv,hi,hvs⟩)
  have HO5:=Lib.hid ho5
  rw [← hn] at HL5
  have HBS:=Lib.hid (show (∀ y∈([]:List Sp.Span),Sp.May y)∧([]:List Sp.Span).length≤1000000 from ⟨fun y hy => (by cases hy),by simp⟩)
  obtain ⟨xs,hxs⟩:∃ xs:List Sp.Span,xs=[]:=⟨_,rfl⟩
  rw [← hxs] at HLL HBS
  obtain ⟨init,hin⟩:∃ init,init=h.l:=⟨_,rfl⟩
  obtain ⟨fn,hfn⟩:∃ fn,fn=nx:=⟨_,rfl⟩
  rw [← hin,← hfn] at HLL
  have HW:=Lib.hid (show ({ hh with l:=init++[⟨fn,xs++[⟨tr,id,pa,se,ho',sa,du,no⟩]⟩] }:Hl)={ hh with l:=pushL hh.l ⟨tr,id,pa,se,ho',sa,du,no⟩ } by rw [HHL,pushL_snoc,hin,hfn,hxs])
  rw [← HW.out] at HV
  clear hs5 hk5 hN1 HV0 HHL ho5 hlv hlp hi hvs hn hsn hxs hin hfn
  go_wp2_with fail
  refine HL5.out.mono ?_
  rintro e w6 ⟨rfl,hb6⟩
  have HO6:=Lib.hid (HO5.out.below hb6)
  have HC6:=Lib.hid (HC5.out.trans (HK.below hb6))
  have HQ6:=Lib.hid (HQ5.out.below hb6)
  have HZ56:=Lib.hid hb6.size
  clear hb6
  go_wp2_with fail
  obtain ⟨x0,hx0⟩:∃ x0,x0=(w6).drew:=⟨_,rfl⟩
  have hb01:Below (w6).heap.size w6 x0:=by rw [hx0];exact (Below.refl _ _).drew
  have HO0:=Lib.hid (HO.below HO6.out hb01)
  have HC0:=Lib.hid (HK.trans HC6.out (HK.below hb01))
  have HQ0:=Lib.hid (Blk.below HQ6.out hb01)
  have HBZ:=Lib.hid (show w0.heap.size≤x0.heap.size from HO0.out.live.size)
  obtain ⟨hll,hnn,hlv,hii,hvs⟩:=HLL.out
  have hsg:SegAt w0.heap.size x0 ⟨fn,.slice sx sn sc,.slice ex sn ec⟩ ⟨fn,xs⟩:=by
   have h5:=HO0.out.rows.each n hii (by rw [hll,hnn];simp)
   rw [hvs] at h5
   have e5:(hh.l)[n]'(by rw [hll,hnn];simp)=⟨fn,xs⟩:=by simp [hll,hnn]
   rw [e5] at h5
   exact h5
  have HPx0:=Lib.hid (show Pend w0 x0 x0 (.slice sx sn sc) (.slice ex sn ec) xs ⟨tr,id,pa,se,ho',sa,du,no⟩ none none from Pend.start hsg.spans hsg.ends)
  have HSV:=Lib.hid (fun k (hk:(Value.slice sx sn sc).ownBlock=some k) => (OwnRow.lt hsg.spans k hk).2)
  have HEV:=Lib.hid (fun k (hk:(Value.slice ex sn ec).ownBlock=some k) => (hsg.ends.lt' k hk).2)
  have HTT:=Lib.hid (fun (V:World) (hV:Chg (fun k => (Value.slice sx sn sc).ownBlock=some k∨(Value.slice ex sn ec).ownBlock=some k) x0 V) => show V.cell? ⟨q,0,none⟩=some (.int .i64 tr)∧V.cell? ⟨q,1,none⟩=some (.int .i64 id)∧V.cell? ⟨q,2,none⟩=some (.int .i64 pa)∧V.cell? ⟨q,3,none⟩=some (.string se)∧V.cell? ⟨q,4,none⟩=some (.string ho')∧V.cell? ⟨q,5,none⟩=some (.int .i64 sa)∧V.cell? ⟨q,6,none⟩=some (.int .i64 du)∧V.cell? ⟨q,7,none⟩=some (.string no) from by
   have k:=HQ0.out.chg hV (fun e => HQ2.out.2 (HO0.out.inSeg hii hvs e))
   exact ⟨k.cell 0,k.cell 1,k.cell 2,k.cell 3,k.cell 4,k.cell 5,k.cell 6,k.cell 7⟩)
  have HSS:=Lib.hid (fun (V:World) (hV:Chg (fun k => (Value.slice sx sn sc).ownBlock=some k∨(Value.slice ex sn ec).ownBlock=some k) x0 V) => (HO0.out.still hlv hii hvs hV).1)
  have HFZ:=Lib.hid (fun (V:World) (hV:Chg (fun k => (Value.slice sx sn sc).ownBlock=some k∨(Value.slice ex sn ec).ownBlock=some k) x0 V) => (HO0.out.still hlv hii hvs hV).2)
  have HTS:=Lib.hid (fun (V V2:World) (hV:Chg (fun k => (Value.slice sx sn sc).ownBlock=some k∨(Value.slice ex sn ec).ownBlock=some k) x0 V) (hV2:Chg (fun k => k=g) V V2) => show V2.cell? ⟨q,0,none⟩=some (.int .i64 tr)∧V2.cell? ⟨q,1,none⟩=some (.int .i64 id)∧V2.cell? ⟨q,2,none⟩=some (.int .i64 pa)∧V2.cell? ⟨q,3,none⟩=some (.string se)∧V2.cell? ⟨q,4,none⟩=some (.string ho')∧V2.cell? ⟨q,5,none⟩=some (.int .i64 sa)∧V2.cell? ⟨q,6,none⟩=some (.int .i64 du)∧V2.cell? ⟨q,7,none⟩=some (.string no) from by
   have k:=(HQ0.out.chg hV (fun e => HQ2.out.2 (HO0.out.inSeg hii hvs e))).chg hV2 (fun e => HQ2.out.2 (HO0.out.inH q (.inr (.inl (by rw [hlv,e];rfl)))))
   exact ⟨k.cell 0,k.cell 1,k.cell 2,k.cell 3,k.cell 4,k.cell 5,k.cell 6,k.cell 7⟩)
  have HFN:=Lib.hid (fun (V:World) (u1 u2:Value) (hp:Pend w0 x0 V (.slice sx sn sc) (.slice ex sn ec) xs ⟨tr,id,pa,se,ho',sa,du,no⟩ (some u1) (some u2)) (V2:World) (hV2:V2=(V.setCell ⟨g,n*3+1,none⟩ u1).setCell ⟨g,n*3+2,none⟩ u2) => show HPost w0 X H w (.pointer (some ⟨bd,0,none⟩)) dd j { hh with l:=init++[⟨fn,xs++[⟨tr,id,pa,se,ho',sa,du,no⟩]⟩] } V2 from by
   obtain ⟨N,vs',hN,hO,hKK⟩:=HO0.out.finish' hll hnn hlv hii hvs hp hV2
   exact HO.post HXA.out.1 (HXA.out.2.1 x0 (by have:=HZ56.out;have:=hb01.size;omega)) HHX.out HXA.out.2.2 HXL.out HC0.out HO0.out.sub hN hO hKK)
  have HMX:=Lib.hid (show ∀ y∈xs,Sp.May y from fun y hy => HBS.out.1 y hy)
  have HXN:=Lib.hid (HBS.out.2)
  have htl:=(sgT_len xs HMX.out).2
  have HTL:=Lib.hid (show (sgT xs).length≤1000000000 by have:=HXN.out;omega)
  obtain ⟨tot,htot⟩:∃ tot,tot=(sgT xs).length+F.size:=⟨_,rfl⟩
  have hadd:((sgT xs).length:Int)+(F.size:Int)=(tot:Int):=by omega
  have hwr:IntKind.i64.wrap (tot:Int)=tot:=by rw [IntKind.wrap_i64];have:=HTL.out;have:=HFS.out;omega
  have HEQ:=Lib.hid (show sgEnds (xs++[⟨tr,id,pa,se,ho',sa,du,no⟩])=sgEnds xs++[(tot:Int)] by rw [sgEnds_snoc,HFE.out,hadd])
  have hT:=HTT.out x0 (Chg.refl _ _)
  have hS:=HSS.out x0 (Chg.refl _ _)
  clear hll hnn hlv hii hvs hsg htl htot hb01
  refine wp_region_two (T:=fun W => W.cell? ⟨q,0,none⟩=some (.int .i64 tr)∧W.cell? ⟨q,1,none⟩=some (.int .i64 id)∧W.cell? ⟨q,2,none⟩=some (.int .i64 pa)∧W.cell? ⟨q,3,none⟩=some (.string se)∧W.cell? ⟨q,4,none⟩=some (.string ho')∧W.cell? ⟨q,5,none⟩=some (.int .i64 sa)∧W.cell? ⟨q,6,none⟩=some (.int .i64 du)∧W.cell? ⟨q,7,none⟩=some (.string no)) (S:=fun W => W.cell? ⟨g,n*3,none⟩=some (.int .i64 fn)∧W.cell? ⟨g,n*3+1,none⟩=some (.slice sx sn sc)∧W.cell? ⟨g,n*3+2,none⟩=some (.slice ex sn ec)) (n:=24) (by kernel_rfl) ?_
  rw [← hx0]
  clear hx0
  refine tk 0 63 hT hS ?_
  refine tk 1 64 hT hS ?_
  try simp only [xq]
  refine tk 2 65 hT hS ?_
  refine tk 3 66 hT hS ?_
  try simp only [xq]
  refine tk 4 67 hT hS ?_
  try simp only [xq]
  refine two_take 5 (some 68) (v:=?_) rfl rfl (by kernel_rfl) (by kernel_rfl) (by kernel_rfl) (by kernel_rfl) (by decide) (by kernel_rfl) (fun _ _ _ h => h) (Or.inl ⟨by rfl,?hy5⟩) hT hS ?_
  case hy5 => (intro w' hS';go_simp;(try with_reducible rfl))
  try simp only [xq]
  refine tk 6 69 hT hS ?_
  refine tk 9 72 hT hS ?_
  try simp only [xq]
  refine tk 10 73 hT hS ?_
  refine tk 11 74 hT hS ?_
  try simp only [xq]
  refine two_take 12 (some 75) (v:=?_) rfl rfl (by kernel_rfl) (by kernel_rfl) (by kernel_rfl) (by kernel_rfl) (by decide) (by kernel_rfl) (fun _ _ _ h => h) (Or.inl ⟨by rfl,?hy12⟩) hT hS ?_
  case hy12 => (intro w' hS';go_simp;(try with_reducible rfl))
  try simp only [xq]
  refine tk 13 76 hT hS ?_
  refine tk 14 77 hT hS ?_
  try simp only [xq]
  refine two_take 15 (some 78) (v:=?_) rfl rfl (by kernel_rfl) (by kernel_rfl) (by kernel_rfl) (by kernel_rfl) (by decide) (by kernel_rfl) (fun _ _ _ h => h) (Or.inl ⟨by rfl,?hy15⟩) hT hS ?_
  case hy15 => (intro w' hS';go_simp;(try with_reducible rfl))
  try simp only [xq]
  refine tk 17 80 hT hS ?_
  refine tk 18 81 hT hS ?_
  try simp only [xq]
  refine two_one 7 rfl (by kernel_rfl) ?_
  intro K hK
  go_simp
  obtain ⟨y0,hy0⟩:∃ y,y=x0.alloc (.cells #[.int .i64 tr,.int .i64 id,.int .i64 pa,.string se,.string ho',.int .i64 sa,.int .i64 du,.string no] 47 (0,0)):=⟨_,rfl⟩
  rw [← hy0]
  have hby0:Below x0.heap.size x0 y0:=by rw [hy0];exact (Below.refl _ _).alloc (Nat.le_refl _) _
  have HAy0:=Lib.hid (show Blk y0 x0.heap.size 47 #[.int .i64 tr,.int .i64 id,.int .i64 pa,.string se,.string ho',.int .i64 sa,.int .i64 du,.string no] by rw [hy0];exact Blk.alloc_new x0 _ _)
  have HAZ:=Lib.hid (show x0.heap.size≤x0.heap.size from HPx0.out.size)
  have HPy0:=Lib.hid (HPx0.out.below hby0)
  clear hy0 hby0
  have hT1:=HTT.out y0 HPy0.out.chg
  have hS1:=HSS.out y0 HPy0.out.chg
  refine hK.out _ _ hT1 (fun _ _ => hS1) ?_
  clear hK K hT hS
  have hT:=hT1
  have hS:=hS1
  clear hT1 hS1
  try simp only [xq]
  refine two_one 8 rfl (by kernel_rfl) ?_
  intro K hK
  refine step_append_rows rfl (.tmp 68) (.tmp 70) (by rfl) spRow_len (by omega) under_spans Tryz.info_span rfl (by omega) (show OwnSp y0 w0.heap.size (.slice sx sn sc) xs from HPy0.out.sp) (by rfl) (m:=[⟨tr,id,pa,se,ho',sa,du,no⟩]) (by rfl) (RdRow.one HAy0.out rfl) (fun a _ => spRow_one a) (by have:=HXN.out;simp;omega) (by have:=HXN.out;simp;omega) (Nat.le_trans HBZ.out HPy0.out.size) ?_
  intro u1 y1 hown hgr hb
  have HPy1:=Lib.hid (HPy0.out.spans hown hgr hb)
  obtain ⟨u1x,u1c,hu⟩:=OwnRow.shape hown
  obtain ⟨u1n,hun⟩:∃ u1n,u1n=(xs++[(⟨tr,id,pa,se,ho',sa,du,no⟩:Sp.Span)]).length:=⟨_,rfl⟩
  rw [← hun] at hu
  subst hu
  clear hown hgr hb hun
  have hT1:=HTT.out y1 HPy1.out.chg
  have hS1:=HSS.out y1 HPy1.out.chg
  refine hK.out _ _ hT1 (fun _ _ => hS1) ?_
  clear hK K hT hS
  have hT:=hT1
  have hS:=hS1
  clear hT1 hS1
  try simp only [xq]
  refine two_one 16 rfl (by kernel_rfl) ?_
  intro K hK
  go_simp
  refine (segEnd_any (w:=y1) (n:=fn) sx sn sc (show OwnI y1 w0.heap.size (.slice ex sn ec) (sgEnds xs) from HPy1.out.en) HMX.out HTL.out).mono ?_
  rintro e y2 ⟨rfl,hb⟩
  have HPy2:=Lib.hid (HPy1.out.below hb)
  clear hb
  have hT1:=HTT.out y2 HPy2.out.chg
  have hS1:=HSS.out y2 HPy2.out.chg
  refine hK.out _ _ hT1 (fun _ _ => hS1) ?_
  clear hK K hT hS
  have hT:=hT1
  have hS:=hS1
  clear hT1 hS1
  try simp only [xq]
  refine tk 19 82 hT hS ?_
  try simp only [xq]
  refine two_one 20 rfl (by kernel_rfl) ?_
  intro K hK
  go_simp
  obtain ⟨y3,hy3⟩:∃ y,y=y2.alloc (.cells #[.int .i64 tot] 3 (0,0)):=⟨_,rfl⟩
  rw [← hy3]
  have hby3:Below y2.heap.size y2 y3:=by rw [hy3];exact (Below.refl _ _).alloc (Nat.le_refl _) _
  have HIy3:=Lib.hid (show Blk y3 y2.heap.size 3 #[.int .i64 tot] by rw [hy3];exact Blk.alloc_new y2 _ _)
  have HIZ:=Lib.hid (show x0.heap.size≤y2.heap.size from HPy2.out.size)
  have HPy3:=Lib.hid (HPy2.out.below hby3)
  clear hy3 hby3
  have hT1:=HTT.out y3 HPy3.out.chg
  have hS1:=HSS.out y3 HPy3.out.chg
  refine hK.out _ _ hT1 (fun _ _ => hS1) ?_
  clear hK K hT hS
  have hT:=hT1
  have hS:=hS1
  clear hT1 hS1
  try simp only [xq]
  refine two_one 21 rfl (by kernel_rfl) ?_
  intro K hK
  refine step_append_rows rfl (.tmp 75) (.tmp 83) (by rfl) iRow_len (by omega) under_ints Tryz.info_int rfl (by omega) (ownI_row (show OwnI y3 w0.heap.size (.slice ex sn ec) (sgEnds xs) from HPy3.out.en)) (by rfl) (m:=[(tot:Int)]) (by rfl) (RdRow.one HIy3.out rfl) (fun a _ u hu => iRow_one a u hu) (by rw [sgEnds_length];have:=HXN.out;simp;omega) (by rw [sgEnds_length];have:=HXN.out;simp;omega) (Nat.le_trans HBZ.out HPy3.out.size) ?_
  intro u2 y4 hown hgr hb
  have hown2:OwnI y4 w0.heap.size u2 (sgEnds (xs++[⟨tr,id,pa,se,ho',sa,du,no⟩])):=by rw [HEQ.out];exact ownI_of hown
  have HPy4:=Lib.hid (HPy3.out.ends hown2 hgr hb)
  obtain ⟨u2x,u2c,hu⟩:=OwnRow.shape hown
  obtain ⟨u2n,hun⟩:∃ u2n,u2n=(sgEnds xs++[(tot:Int)]).length:=⟨_,rfl⟩
  rw [← hun] at hu
  subst hu
  clear hown hown2 hgr hb hun
  have hT1:=HTT.out y4 HPy4.out.chg
  have hS1:=HSS.out y4 HPy4.out.chg
  refine hK.out _ _ hT1 (fun _ _ => hS1) ?_
  clear hK K hT hS
  have hT:=hT1
  have hS:=hS1
  clear hT1 hS1
  try simp only [xq]
  refine tk 22 85 hT hS ?_
  refine tk 23 86 hT hS ?_
  try simp only [xq]
  obtain ⟨f1,f2⟩:=HFZ.out y4 HPy4.out.chg
  refine two_one 24 rfl (by kernel_rfl) ?_
  intro K hK
  go_simp
  obtain ⟨z1,hz1⟩:∃ z1,z1=y4.setCell ⟨g,n*3+1,none⟩ (.slice u1x u1n u1c):=⟨_,rfl⟩
  rw [← hz1]
  have hT1:=HTS.out y4 z1 HPy4.out.chg (by rw [hz1];exact (Chg.refl (fun k => k=g) y4).setCell (p:=⟨g,_,none⟩) (fun _ => rfl) _)
  have f3:z1.frozen? ⟨g,n*3+2,none⟩=false:=by rw [hz1];simpa using f2
  have c3:z1.cell? ⟨g,n*3+2,none⟩=some (.slice ex sn ec):=by rw [hz1];exact (World.cell?_setCell_other _ _ _ _ (by intro e;injection e with _ e _;omega)).trans hS.2.2
  refine hK.out _ _ hT1 (fun _ e => absurd rfl e) ?_
  have HZ1:=Lib.hid hz1
  clear hK K hT hS f1 f2 hz1
  have hT:=hT1
  clear hT1
  try simp only [xq]
  refine two_one 25 rfl (by kernel_rfl) ?_
  intro K hK
  go_simp
  refine hK.out _ _ hT (fun e _ => by exact absurd e (by decide)) ?_
  clear hK K
  try simp only [xq]
  refine two_one 26 rfl (by kernel_rfl) ?_
  intro K hK
  go_simp
  refine hK.out _ _ hT (fun e _ => by exact absurd e (by decide)) ?_
  clear hK K
  try simp only [xq]
  refine two_one 27 rfl (by kernel_rfl) ?_
  intro K hK
  go_simp
  obtain ⟨z2,hz2⟩:∃ z2,z2=z1.setCell ⟨g,n*3+2,none⟩ (.slice u2x u2n u2c):=⟨_,rfl⟩
  rw [← hz2]
  have hT2:=HTS.out y4 z2 HPy4.out.chg (by rw [hz2,HZ1.out];exact ((Chg.refl (fun k => k=g) y4).setCell (p:=⟨g,_,none⟩) (fun _ => rfl) _).setCell (p:=⟨g,_,none⟩) (fun _ => rfl) _)
  have HZZ:=Lib.hid (HFN.out y4 _ _ HPy4.out z2 (by rw [hz2,HZ1.out]))
  refine hK.out _ _ hT2 (fun e _ => by exact absurd e (by decide)) ?_
  clear hK K hT hT2 f3 c3 hz2
  try simp only [xq]
  refine two_done (by kernel_rfl) ?_ _
  go_wp2_with fail
  go_ret
  rw [HV.out]
  exact ⟨rfl,HZZ.out⟩
theorem happend_any (h0:HS w0 X H w v d j h) (hrun:h.runs d) (he:LEnv w0) (hbd:SgsBnd h.l) (hmore:h.l.length<1000000) (hnx:nextOf h.l≤999999999) (x:Sp.Span) (hs1:x.service.size≤maxLen) (hs2:x.host.size≤maxLen) (hs3:x.note.size≤maxLen) :
  Calls Tryz.prog 20 #[.pointer (some ⟨j,0,none⟩),spV x] w fun e w' => e=.returned (.int .i64 (appP d h x).1)∧HPost w0 X H w v (appP d h x).2.2 j (appP d h x).2.1 w':=by
 by_cases hm:Sp.May x
 · rcases List.eq_nil_or_concat h.l with hl | ⟨init,a,hl⟩
   · exact happend_nil h0 hrun he hbd hmore hnx x hs1 hs2 hs3 hm hl
   · rw [List.concat_eq_append] at hl
     by_cases h16:a.spans.length<16
     · exact happend_in h0 hrun he hbd x hs1 hs2 hs3 hm hl h16
     · exact happend_new h0 hrun he hbd hmore hnx x hs1 hs2 hs3 hm hl h16
 · exact happend_bad h0 hrun he hbd x hs1 hs2 hs3 hm
end
end Go.Proofs.YtdacanghbepjpaaGreatDoor
namespace Go.Proofs.YtdacanghbepjpaaGreatDoor
set_option linter.unusedSimpArgs false
set_option linter.unusedVariables false
set_option maxRecDepth 100000
open Go.RowKit Go.Maps
open Dsk
section
variable {w0 w w':World} {X H S:Nat→Prop} {v lv:Value} {d d':Dk} {j B:Nat} {h:Hl} {vs:List SegV} {l:List Sg}
set_option maxHeartbeats 4000000 in
theorem hrotate_any (h0:HS w0 X H w v d j h) (hrun:h.runs d) (he:LEnv w0) (hbd:SgsBnd h.l) (hnx:nextOf h.l≤999999999) :
  Calls Tryz.prog 89 #[.pointer (some ⟨j,0,none⟩)] w fun e w' => e=.returned (.int .i64 (rotP d h).1)∧HPost w0 X H w v (rotP d h).2.2 j (rotP d h).2.1 w':=by
 have HR:=Lib.hid (hruns_any h0)
 rw [if_pos hrun] at HR
 obtain ⟨lv,vs,ho⟩:=h0.open_
 have HH:=Lib.hid ho
 have HL:=Lib.hid (fun (W:World) (hW:Below w.heap.size w W) => hend_any (ho.below hW).blk (ho.below hW).rows hbd.many)
 rcases List.eq_nil_or_concat h.l with hl | ⟨init,a,hl⟩
 · have hq:rotP d h=(0,h,d):=by unfold rotP;rw [hl];rfl
   rw [hq]
   rw [hl] at HL
   have e0:lastPtr lv ([]:List Sg).length=.pointer none:=lastPtr_nil lv
   rw [e0] at HL
   clear h0 hrun he hbd ho hl hq e0 hnx
   go_enter Tryz.func89,Tryz.ntmps89
   go_wp2_with fail
   refine HR.out.mono ?_
   rintro e w1 ⟨rfl,hb1⟩
   have HB:=Lib.hid hb1
   clear hb1
   go_wp2_with fail
   refine (HL.out w1 HB.out).mono ?_
   rintro e w2 ⟨rfl,hb2⟩
   have HB2:=Lib.hid (HB.out.trans (hb2.mono HB.out.size))
   clear hb2
   go_wp2_with fail
   go_ret
   exact ⟨rfl,HPost.same (HH.out.below HB2.out).hs (HK.below HB2.out)⟩
 · rw [List.concat_eq_append] at hl
   obtain ⟨g,c,sx,sc,ex,ec,hlv,hlp,_,_,hi,hvs⟩:=ho.last hl
   rw [hlp] at HL
   have HTC:=Lib.hid (fun (W:World) (hW:Below w.heap.size w W) => by
    have:=(ho.below hW).cells hlv init.length hi
    rw [hvs] at this
    exact this)
   have hq:rotP d h=if a.spans.length=0 then (0,h,d) else beginP d h []:=by
    unfold rotP
    rw [hl,getLast_snoc]
    simp only [List.length_eq_zero_iff]
   rw [hq]
   have HBG:=Lib.hid (fun (W:World) (hW:Below w.heap.size w W) => hbegin_any (h0.below hW) he hbd hnx (⟨#[]⟩:ByteArray) (by simp [ByteArray.size]))
   obtain ⟨n,hn⟩:∃ n,n=init.length:=⟨_,rfl⟩
   obtain ⟨sn,hsn⟩:∃ sn,sn=a.spans.length:=⟨_,rfl⟩
   simp only [← hn,← hsn] at HL HTC ⊢
   clear h0 hrun he hbd ho hl hq hlv hlp hvs hi hn hnx hsn
   by_cases hs0:sn=0
   · subst hs0
     rw [if_pos rfl]
     go_enter Tryz.func89,Tryz.ntmps89
     go_wp2_with fail
     refine HR.out.mono ?_
     rintro e w1 ⟨rfl,hb1⟩
     have HB:=Lib.hid hb1
     clear hb1
     go_wp2_with fail
     refine (HL.out w1 HB.out).mono ?_
     rintro e w2 ⟨rfl,hb2⟩
     have HB2:=Lib.hid (HB.out.trans (hb2.mono HB.out.size))
     clear hb2
     obtain ⟨_,_,p1,_⟩:=HTC.out w2 HB2.out
     go_wp2_with fail
     go_ret
     exact ⟨rfl,HPost.same (HH.out.below HB2.out).hs (HK.below HB2.out)⟩
   · rw [if_neg hs0]
     have t0:((sn:Int) == 0)=false:=by rw [beq_eq_false_iff_ne];omega
     go_enter Tryz.func89,Tryz.ntmps89
     go_wp2_with fail
     refine HR.out.mono ?_
     rintro e w1 ⟨rfl,hb1⟩
     have HB:=Lib.hid hb1
     clear hb1
     go_wp2_with fail
     refine (HL.out w1 HB.out).mono ?_
     rintro e w2 ⟨rfl,hb2⟩
     have HB2:=Lib.hid (HB.out.trans (hb2.mono HB.out.size))
     clear hb2
     obtain ⟨_,_,p1,_⟩:=HTC.out w2 HB2.out
     go_wp2_with fail
     clear p1
     refine (HBG.out w2 HB2.out).mono ?_
     rintro e w3 ⟨rfl,N,hN,hs,hk⟩
     have HN:=Lib.hid (show HPost w0 X H w v (beginP d h []).2.2 j (beginP d h []).2.1 w3 from ⟨N,fun k e => ⟨Nat.le_trans HB2.out.size (hN k e).1,(hN k e).2⟩,hs,(HK.below HB2.out).trans hk⟩)
     clear hN hs hk
     go_wp2_with fail
     go_ret
     exact ⟨rfl,HN.out⟩
end
end Go.Proofs.YtdacanghbepjpaaGreatDoor
namespace Go.Proofs.YtdacanghbepjpaaGreatDoor
set_option linter.unusedSimpArgs false
set_option linter.unusedVariables false
set_option maxRecDepth 100000
open Go.RowKit Go.Maps
open Dsk
section
variable {w0 w w':World} {X H S:Nat→Prop} {v lv u:Value} {d d':Dk} {j B:Nat} {h:Hl} {vs vr:List SegV} {l:List Sg} {s:SegV}
theorem RdRow.tail {α:Type} {row:α→List Value} {z:Nat} {g off n c:Nat} {a:α} {l:List α} (h:RdRow row z w (.slice (some ⟨g,off,none⟩) n c) (a::l)):RdRow row z w (.slice (some ⟨g,off+1*z,none⟩) (n-1) (c-1)) l:=by
 obtain ⟨x,c',e,hc,hx⟩:=h
 injection e with e1 e2 e3
 subst e1 e2 e3
 refine ⟨_,_,by rw [List.length_cons,Nat.add_sub_cancel],by rw [List.length_cons] at hc;omega,fun i hi => ?_⟩
 obtain ⟨b,off',e,hb,h1⟩:=hx (i+1) (by rw [List.length_cons];omega)
 cases e
 refine ⟨_,_,rfl,hb,fun k u hu => ?_⟩
 have:=h1 k u hu
 rw [show off+1*z+i*z+k=off+(i+1)*z+k by rw [Nat.one_mul,Nat.succ_mul];omega]
 exact this
theorem LogRows.oks (hr:LogRows B w lv vs l):∀ a∈vs,∀ y∈segRow a,y.oneCell'=true:=fun a ha y hy => by
 obtain ⟨i,hi,rfl⟩:=List.mem_iff_getElem.1 ha
 have hs:=hr.each i hi (hr.len ▸ hi)
 obtain ⟨x1,c1,e1⟩:=OwnRow.shape hs.spans
 have e2:∃ x2 n2 c2,vs[i].ev=.slice x2 n2 c2:=by
  rcases hs.ends.2 with ⟨e,_⟩ | ⟨g,cap,cur,e,_⟩
  · exact ⟨_,_,_,e⟩
  · exact ⟨_,_,_,e⟩
 obtain ⟨x2,n2,c2,e2⟩:=e2
 simp [segRow] at hy
 rcases hy with rfl | rfl | rfl
 · rfl
 · rw [e1];rfl
 · rw [e2];rfl
theorem HO.less (h0:HO w0 X H w v d j h lv (s::vr)) {a:Sg} {r:List Sg} (hl:h.l=a::r) (hown:OwnRow segRow 3 132 w' w.heap.size u vr) (hb:Below w.heap.size w w') :
  ∃ N,NewIn w (w'.setCell ⟨j,3,none⟩ u) N∧HO w0 (Plus X N) (Plus H N) (w'.setCell ⟨j,3,none⟩ u) v d j { h with l:=r } u vr∧HK X H w (w'.setCell ⟨j,3,none⟩ u):=by
 have hj:=h0.inH j (.inl rfl)
 have hjl:=h0.blk.lt
 have hc1:Chg (fun _ => False) w w':=Chg.of_below hb
 have hc2:Chg (fun k => k=j) w' (w'.setCell ⟨j,3,none⟩ u):=(Chg.refl (fun k => k=j) w').setCell (p:=⟨j,3,none⟩) (fun _ => rfl) _
 have hsz:(w'.setCell ⟨j,3,none⟩ u).heap.size=w'.heap.size:=by simp
 have hult:=hown.lt
 have hune:∀ k,u.ownBlock=some k→k≠j:=fun k hk e => by have:=(hult k hk).1;omega
 have hc:Chg (fun k => k=j) w (w'.setCell ⟨j,3,none⟩ u):=(Chg.mono hc1 fun k _ e => e.elim).trans hc2
 have hw0:w0.heap.size≤w.heap.size:=h0.live.size
 have hN:NewIn w (w'.setCell ⟨j,3,none⟩ u) fun k => u.ownBlock=some k:=fun k hk => ⟨(hult k hk).1,by rw [hsz];exact (hult k hk).2⟩
 have hlen:vr.length=r.length:=by have:=h0.rows.len;rw [hl] at this;simpa using this
 refine ⟨fun k => u.ownBlock=some k,hN,⟨h0.live_plus hc (fun k e => by rw [e];exact hj) hN,(h0.blk.below hb).set 3 _,⟨(hown.base hw0).chg hc2 hune,hlen,fun i hi hi' => ?_,fun i k hi hk hne b hb1 hb2 => ?_⟩,fun k hk => ?_,fun k hk => hk.elim (fun e => .inl (h0.sub k e)) .inr,fun k hk => ?_⟩,Chg.mono hc fun k _ e => .inr (by rw [e];exact hj)⟩
 · have h1:=h0.rows.each (i+1) (by simpa using hi) (by rw [hl];simpa using hi')
   simp only [hl,List.getElem_cons_succ] at h1
   exact h1.chg hc fun k hk e => h0.ne k (.inr (mem_blks.2 ⟨i+1,by simpa using hi,mem_segBlks.1 hk⟩)) e
 · exact h0.rows.apart (i+1) (k+1) (by simpa using hi) (by simpa using hk) (by omega) b hb1 hb2
 · rcases hk with rfl | hk | hk
   · exact .inl hj
   · exact .inr hk
   · refine .inl (h0.inH k (.inr (.inr ?_)))
     obtain ⟨i,hi,hk⟩:=mem_blks.1 hk
     exact mem_blks.2 ⟨i+1,by simpa using hi,hk⟩
 · rcases hk with hk | hk
   · exact ⟨(h0.new k hk).1,Nat.lt_of_lt_of_le (h0.new k hk).2 hc.size⟩
   · exact ⟨Nat.le_trans hw0 (hult k hk).1,by rw [hsz];exact (hult k hk).2⟩
set_option maxHeartbeats 2000000 in
theorem hclone_any {b off n c:Nat} (hx:RdRow segRow 3 w (.slice (some ⟨b,off,none⟩) n c) vs) (hl:vs.length≤1000000) (hone:∀ a∈vs,∀ y∈segRow a,y.oneCell'=true) :
  Calls Tryz.prog 147 #[.slice (some ⟨b,off,none⟩) n c] w fun e w' => ∃ u,e=.returned u∧OwnRow segRow 3 132 w' w.heap.size u vs∧Below w.heap.size w w':=by
 have hba:Below w.heap.size w (w.alloc (.cells #[] 132 (0,0))):=(Below.refl _ _).alloc (Nat.le_refl _) _
 have hown0:OwnRow segRow 3 132 (w.alloc (.cells #[] 132 (0,0))) w.heap.size (.slice (some ⟨w.heap.size,0,none⟩) 0 0) ([]:List SegV):=World.ownsRow_made w #[] 0 (Nat.le_refl _) (Nat.zero_le _) rfl
 obtain ⟨u,w1,e1,e2,e3,_⟩:=run_append_rows (ty:=134) segRow_len (by omega) under_segs Tryz.info_seg rfl (by omega) hown0 _ vs (hx.below hba) hone (by simp;omega) (by simp;omega) hba.size
 rw [List.nil_append] at e2
 have hbe:Below w.heap.size w w1:=hba.grown e3 (by simp) (by intro k hk;simp [Value.ownBlock] at hk;omega)
 have Hrun:=Lib.hid e1
 have HP:=Lib.hid (And.intro e2 hbe)
 have q22:∀ (w:World) (a:Option Addr) (n c n' c':Nat),(binOp .eql 134 (.slice a n c) (.slice none n' c')).run Tryz.prog w=.ok (.bool a.isNone) w:=fun w a n c n' c' => Lib.run_eql_slice_nil w _ _ a n c n' c' under_segs
 clear hx hl hone hba hown0 e1 e2 e3 hbe
 go_enter Tryz.func147,Tryz.ntmps147
 go_wp2_with (at_builtin;refine Lib.wpList_append_run _ rfl _ _ _ _ rfl _ _ rfl rfl _ _ (Hrun.out) ?_)
 go_wp2_with fail
 go_ret
 exact ⟨_,rfl,HP.out.1,HP.out.2⟩
end
end Go.Proofs.YtdacanghbepjpaaGreatDoor
namespace Go.Proofs.YtdacanghbepjpaaGreatDoor
set_option linter.unusedSimpArgs false
set_option linter.unusedVariables false
set_option maxRecDepth 100000
open Go.RowKit Go.Maps
open Dsk
section
variable {w0 w w':World} {X H S:Nat→Prop} {v lv:Value} {d d':Dk} {j B:Nat} {h:Hl} {vs:List SegV} {l:List Sg}
def lenCell (w:World) (j:Nat):Nat:=match w.cell? ⟨j,3,none⟩ with
 | some (.slice _ n _) => n
 | _ => 0
theorem HO.lenCell (h0:HO w0 X H w v d j h lv vs):lenCell w j=vs.length:=by
 obtain ⟨x,c,rfl⟩:=h0.rows.row.shape
 unfold YtdacanghbepjpaaGreatDoor.lenCell
 have c3:w.cell? ⟨j,3,none⟩=some (.slice x vs.length c):=h0.blk.cell 3
 rw [c3]
theorem retL_stop {n:Nat} (h:¬ n<l.length):retL n d l=(0,l,d):=by
 cases l with
 | nil => rfl
 | cons a r => unfold retL;rw [if_neg h]
theorem retL_go {n:Nat} {a:Sg} {r:List Sg} (h:n<(a::r).length) {z:Int×Dk} (hz:z=d.remove (ln a.first)):retL n d (a::r)=if z.1≠0 then (z.1,a::r,z.2) else retL n z.2 r:=by
 subst hz
 rw [retL,if_pos h]
set_option maxHeartbeats 16000000 in
theorem hretain_any (h0:HS w0 X H w v d j h) (hrun:h.runs d) (he:LEnv w0) (hbd:SgsBnd h.l) (n:Int) :
  Calls Tryz.prog 90 #[.pointer (some ⟨j,0,none⟩),.int .i64 n] w fun e w' => e=.returned (.int .i64 (retP n d h).1)∧HPost w0 X H w v (retP n d h).2.2 j (retP n d h).2.1 w':=by
 have HR:=Lib.hid (hruns_any h0)
 rw [if_pos hrun] at HR
 have HH:=Lib.hid h0
 have HXL:=Lib.hid (show ∀ k,X k→k<w.heap.size from h0.live.lt)
 have HHX:=Lib.hid h0.sub
 have HE:=Lib.hid he
 have HBD:=Lib.hid hbd
 obtain ⟨bd,rfl⟩:=h0.ptr
 by_cases hn1:n<1
 · have hq:retP n d h=(2,h,d):=by unfold retP;rw [if_pos hn1]
   rw [hq]
   clear h0 hrun he hbd hq
   go_enter Tryz.func90,Tryz.ntmps90
   go_wp2_with fail
   refine HR.out.mono ?_
   rintro e w1 ⟨rfl,hb1⟩
   have HB:=Lib.hid hb1
   clear hb1
   go_wp2_with fail
   go_ret
   exact ⟨rfl,HPost.same (HH.out.below HB.out) (HK.below HB.out)⟩
 · obtain ⟨m,hm⟩:∃ m,m=n.toNat:=⟨_,rfl⟩
   obtain ⟨R,hR⟩:∃ R,R=retL m d h.l:=⟨_,rfl⟩
   have hq:retP n d h=(R.1,{ h.told R.1 with l:=R.2.1 },R.2.2):=by unfold retP;rw [if_neg hn1,← hm,← hR]
   rw [hq]
   have hmn:n=(m:Int):=by omega
   subst hmn
   have HRR:=Lib.hid hR
   clear h0 hrun he hbd hq hR hm
   go_enter Tryz.func90,Tryz.ntmps90
   go_wp2_with fail
   refine HR.out.mono ?_
   rintro e w1 ⟨rfl,hb1⟩
   have HB:=Lib.hid hb1
   clear hb1
   go_wp2_with fail
   go_loopw [6] (fun _ wr => ∃ (l:List Sg) (dd:Dk),HPost w0 X H w (.pointer (some ⟨bd,0,none⟩)) dd j { h with l:=l } wr∧R=retL m dd l∧(∀ a∈l,a∈h.l)∧l.length≤1000000) (fun _ wr => lenCell wr j)
   case atStart => exact ⟨h.l,d,HPost.same (HH.out.below HB.out) (HK.below HB.out),HRR.out,fun a e => e,HBD.out.many⟩
   case round =>
    obtain ⟨l,dd,hp,hrest,hsub,hl9⟩:=hrel
    have HP:=Lib.hid hp
    have HRE:=Lib.hid hrest
    have HSU:=Lib.hid hsub
    obtain ⟨N,hN,hs,hk⟩:=hp
    obtain ⟨lv,vs,ho⟩:=hs.open_
    have HO0:=Lib.hid ho
    have HN0:=Lib.hid hN
    have HC0:=Lib.hid hk
    have HLC:=Lib.hid ho.lenCell
    obtain ⟨lx,lc,hlx⟩:=ho.rows.row.shape
    have hvl:=ho.rows.len
    subst hlx
    have g3:wr.cell? ⟨j,3,none⟩=some (.slice lx vs.length lc):=ho.blk.cell 3
    simp only at hvl
    by_cases hlt:m<vs.length
    · obtain ⟨s,vr,rfl⟩:∃ s vr,vs=s::vr:=by
       cases vs with
       | nil => simp at hlt
       | cons s vr => exact ⟨s,vr,rfl⟩
      obtain ⟨a,r,rfl⟩:∃ a r,l=a::r:=by
       cases l with
       | nil => simp at hvl
       | cons a r => exact ⟨a,r,rfl⟩
      obtain ⟨g,c,hlv,_,_,_,_⟩:=ho.rows.row.at_ segRow_len 0 (by simp)
      injection hlv with e1 e2 e3
      subst e1
      obtain ⟨sv,ev,hse⟩:∃ sv ev,s=⟨a.first,sv,ev⟩:=by
       have:=(ho.rows.each 0 (by simp) (by simp)).first
       simp at this
       exact ⟨s.sv,s.ev,by rw [← this]⟩
      subst hse
      obtain ⟨sx,sc,hsv⟩:=OwnRow.shape (ho.rows.each 0 (by simp) (by simp)).spans
      obtain ⟨ex,en,ec,hev⟩:∃ x2 n2 c2,ev=.slice x2 n2 c2:=by
       rcases (ho.rows.each 0 (by simp) (by simp)).ends.2 with ⟨e,_⟩ | ⟨g,cap,cur,e,_⟩
       · exact ⟨_,_,_,e⟩
       · exact ⟨_,_,_,e⟩
      simp at hsv
      subst hsv hev
      have hf9:=HBD.out.first a (hsub a (by simp))
      have HNM:=Lib.hid (fun (W:World) (hW:Below w0.heap.size w0 W) => segName_any (HE.out.below hW) hf9 sx ex a.spans.length sc en ec)
      unfold segVal at HNM
      obtain ⟨z,hz⟩:∃ z,z=dd.remove (ln a.first):=⟨_,rfl⟩
      have hgo:=retL_go (n:=m) (d:=dd) (a:=a) (r:=r) (by rw [← hvl];exact hlt) hz
      obtain ⟨rr,d1⟩:=z
      simp only at hgo
      have HGO:=Lib.hid (hrest.trans hgo)
      have HRM:=Lib.hid (fun (W:World) (hW:Live w0 (Plus X N) W (.pointer (some ⟨bd,0,none⟩)) dd) => hW.removeK (lnB a.first) (lnB_data _) hz.symm (by have:=lnB_size hf9;omega))
      obtain ⟨vn,hvn⟩:∃ vn,vn=vr.length+1:=⟨_,rfl⟩
      have HVN:=Lib.hid hvn
      have HTC:=Lib.hid (fun (W:World) (D:Dk) (hh:Hl) (x:HO w0 (Plus X N) (Plus H N) W (.pointer (some ⟨bd,0,none⟩)) D j hh (.slice (some ⟨g,0,none⟩) vn lc) (⟨a.first,.slice sx a.spans.length sc,.slice ex en ec⟩::vr)) => show W.cell? ⟨j,0,none⟩=some (.pointer (some ⟨bd,0,none⟩))∧W.cell? ⟨j,3,none⟩=some (.slice (some ⟨g,0,none⟩) vn lc)∧W.cell? ⟨g,0,none⟩=some (.int .i64 a.first)∧W.cell? ⟨g,1,none⟩=some (.slice sx a.spans.length sc)∧W.cell? ⟨g,2,none⟩=some (.slice ex en ec) by
       have:=x.cells rfl 0 (by simp)
       exact ⟨this.1,x.blk.cell 3,this.2.1,this.2.2.1,this.2.2.2⟩)
      obtain ⟨fn,hfn⟩:∃ fn,fn=a.first:=⟨_,rfl⟩
      obtain ⟨sn,hsn⟩:∃ sn,sn=a.spans.length:=⟨_,rfl⟩
      simp only [List.length_cons] at HO0 hlt g3 hvl HLC
      rw [← hvn] at HO0 hlt g3 hvl HLC
      simp only [← hfn,← hsn] at HNM HTC HO0 HRM
      have hlt2:(m:Int)<(vn:Int):=by omega
      have hv0:(0:Int)<(vn:Int):=by omega
      have hv0':0<vn:=by omega
      have hv1':1≤vn:=by omega
      have hvc:vn≤lc:=by
       obtain ⟨_,c2,e,hc2,_⟩:=HO0.out.rows.row.at_ segRow_len 0 (by simp)
       injection e with _ _ e
       rw [e,hvn];simpa using hc2
      have HL9:=Lib.hid (show vr.length≤999999∧vr.length=r.length by simp only [List.length_cons] at hl9;omega)
      clear hrest hsub hN hs hk ho hz hgo hf9 hfn hsn hvn e2 e3 hl9
      go_wp2_with fail
      have HPP:=Lib.hid (fun (W2:World) (dd2:Dk) (h2:Hl) (hh:HPost w0 (Plus X N) (Plus H N) wr (.pointer (some ⟨bd,0,none⟩)) dd2 j h2 W2) => show HPost w0 X H w (.pointer (some ⟨bd,0,none⟩)) dd2 j h2 W2 from by
       obtain ⟨Nf,hN,hs,hk⟩:=hh
       obtain ⟨lv2,vs2,ho⟩:=hs.open_
       exact HO.post (fun k e => .inl e) (fun k e => e.elim .inl fun e => .inr (HN0.out k e)) HHX.out (fun k e => .inl e) HXL.out HC0.out HO0.out.sub hN ho hk)
      refine wp_region_two (T:=fun W => W.cell? ⟨j,0,none⟩=some (.pointer (some ⟨bd,0,none⟩))∧W.cell? ⟨j,3,none⟩=some (.slice (some ⟨g,0,none⟩) vn lc)∧W.cell? ⟨g,0,none⟩=some (.int .i64 fn)∧W.cell? ⟨g,1,none⟩=some (.slice sx sn sc)∧W.cell? ⟨g,2,none⟩=some (.slice ex en ec)) (S:=fun _ => True) (n:=99) (by kernel_rfl) ?_
      obtain ⟨y1,hy1⟩:∃ y1,y1=wr.drew:=⟨_,rfl⟩
      rw [← hy1]
      have hby:Below wr.heap.size wr y1:=by rw [hy1];exact (Below.refl _ _).drew
      have HOy1:=Lib.hid (HO.below HO0.out hby)
      have HCy1:=Lib.hid (show HK (Plus X N) (Plus H N) wr y1 from HK.below hby)
      have hS:True:=trivial
      have hT:=HTC.out y1 _ _ HOy1.out
      clear hy1 hby
      refine tk 0 21 hT hS ?_
      refine tk 1 22 hT hS ?_
      try simp only [xq]
      refine tk 2 23 hT hS ?_
      refine tk 3 24 hT hS ?_
      try simp only [xq]
      refine tk 4 25 hT hS ?_
      refine tk 5 26 hT hS ?_
      try simp only [xq]
      refine tk 6 27 hT hS ?_
      refine tk 7 28 hT hS ?_
      try simp only [xq]
      refine tk 8 29 hT hS ?_
      refine tk 9 30 hT hS ?_
      try simp only [xq]
      refine tk 10 31 hT hS ?_
      try simp only [xq]
      refine two_one 11 rfl (by kernel_rfl) ?_
      intro K hK
      go_simp
      refine (HNM.out y1 (HOy1.out.live.below)).mono ?_
      rintro e y2 ⟨rfl,hbz⟩
      have HOy2:=Lib.hid (HO.below HOy1.out hbz)
      have HCy2:=Lib.hid (HK.trans HCy1.out (HK.below hbz))
      have hT1:=HTC.out y2 _ _ HOy2.out
      refine hK.out _ _ hT1 (fun _ _ => hS) ?_
      clear hK K hT hbz
      have hT:=hT1
      clear hT1
      try simp only [xq]
      refine two_one 12 rfl (by kernel_rfl) ?_
      intro K hK
      go_simp
      refine (HRM.out y2 HOy2.out.live).mono ?_
      rintro e y3 ⟨rfl,hlz,hkz⟩
      have HOy3:=Lib.hid (HO.turn HOy2.out hlz hkz)
      have HCy3:=Lib.hid (HK.trans HCy2.out (HK.keeps hkz))
      have hT1:=HTC.out y3 _ _ HOy3.out
      refine hK.out _ _ hT1 (fun _ _ => hS) ?_
      clear hK K hT hlz hkz
      have hT:=hT1
      clear hT1
      try simp only [xq]
      refine two_one 13 rfl (by kernel_rfl) ?_
      intro K hK
      go_simp
      refine (hdoes_at HOy3.out _).mono ?_
      rintro e y4 ⟨rfl,hoz,hkz⟩
      have HOy4:=Lib.hid hoz
      have HCy4:=Lib.hid (HK.trans HCy3.out hkz)
      have hT1:=HTC.out y4 _ _ HOy4.out
      refine hK.out _ _ hT1 (fun _ _ => hS) ?_
      clear hK K hT hoz hkz
      have hT:=hT1
      clear hT1
      try simp only [xq]
      refine tk 14 6 hT hS ?_
      try simp only [xq]
      refine two_done (by kernel_rfl) ?_ _
      clear hT hS
      by_cases hr0:rr=0
      case neg =>
       have t1:(rr == 0)=false:=beq_eq_false_iff_ne.2 hr0
       have HV:=Lib.hid (HGO.out.trans (if_pos hr0))
       go_wp2_with fail
       go_ret
       rw [HV.out]
       exact ⟨rfl,HPP.out _ _ _ (HPost.same HOy4.out.hs HCy4.out)⟩
      case pos =>
       subst hr0
       have HV:=Lib.hid (HGO.out.trans (if_neg (by simp)))
       have HO5:=Lib.hid (show HO w0 (Plus X N) (Plus H N) y4 (.pointer (some ⟨bd,0,none⟩)) d1 j { h with l:=a::r } (.slice (some ⟨g,0,none⟩) vn lc) (⟨fn,.slice sx sn sc,.slice ex en ec⟩::vr) from by have:=HOy4.out;rw [told_zero] at this;exact this)
       have g4:y4.cell? ⟨j,3,none⟩=some (.slice (some ⟨g,0,none⟩) vn lc):=HO5.out.blk.cell 3
       have f4:=HO5.out.blk.free 3
       clear g3
       go_wp2_with fail
       have HCL:=hclone_any (RdRow.tail (HO5.out.rows.row.rd segRow_len)) (by have:=HL9.out;omega) (fun y hy => HO5.out.rows.oks y (List.mem_cons_of_mem _ hy))
       rw [show (0+1*3:Nat)=3 from rfl,show vn-1=r.length by have:=HVN.out;have:=HL9.out;omega] at HCL
       refine HCL.mono ?_
       rintro e w5 ⟨u,rfl,hown,hb5⟩
       obtain ⟨ux,uc,hu⟩:=hown.shape
       obtain ⟨un,hun⟩:∃ un,un=vr.length:=⟨_,rfl⟩
       rw [← hun] at hu
       subst hu
       obtain ⟨Nf,hNf,hof,hkf⟩:=HO5.out.less rfl hown hb5
       have HF:=Lib.hid (HPP.out _ _ _ ⟨Nf,fun k e => ⟨Nat.le_trans (Chg.size HCy4.out) (hNf k e).1,(hNf k e).2⟩,HO.hs hof,Chg.trans HCy4.out hkf⟩)
       have HLN:=Lib.hid hof.lenCell
       have HUN:=Lib.hid hun
       have g5:=(HO5.out.below hb5).blk.cell 3
       have f5:=(HO5.out.below hb5).blk.free 3
       clear g4 f4 HCL hown hb5 hNf hof hkf hun
       go_wp2_with fail
       go_roundw
       case rel => exact ⟨r,d1,HF.out,HV.out,fun b hb => HSU.out b (List.mem_cons_of_mem _ hb),by have:=HL9.out;omega⟩
       case measure => rw [HLN.out,HLC.out];have:=HL9.out;have:=HVN.out;omega
    · have hge:¬ (m:Int)<(vs.length:Int):=by omega
      have HV:=Lib.hid (hrest.trans (retL_stop (by rw [← hvl];exact hlt)))
      clear hrest hsub hN hs hk ho hl9
      go_wp2_with fail
      go_ret
      rw [HV.out]
      exact ⟨rfl,by have:=HP.out;rw [told_zero];exact this⟩
end
end Go.Proofs.YtdacanghbepjpaaGreatDoor
