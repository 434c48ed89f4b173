/- A host's log in memory: a segment more, a record more. -/
import Derived.Test.YtdacanghbepjpaaGreatDoorM7
namespace Go.Proofs.YtdacanghbepjpaaGreatDoor
set_option linter.unusedSimpArgs false
set_option linter.unusedVariables false
set_option maxRecDepth 100000
open Go.RowKit Go.Maps
open Dsk
section
variable {w0 w w':World} {X H S:Nat→Prop} {v lv u:Value} {d d':Dk} {j B:Nat} {h:Hl} {vs:List SegV} {l:List Sg} {s:SegV}
theorem OwnRow.heap {α:Type} {row:α→List Value} {z:Nat} {e:TypeId} {l:List α} (h:OwnRow row z e w B v l) {k:Nat} (hk:v.ownBlock=some k):∃ cs,w.heap[k]?=some (.cells cs e (0,0)):=by
 rcases h.2 with ⟨e,_⟩ | ⟨g,cap,cur,e,_,hh,_⟩
 · rw [e] at hk;cases hk
 · rw [e] at hk
   injection hk with hk
   have hk:g=k:=hk
   subst hk
   exact ⟨_,hh⟩
theorem OwnI.heap {l:List Int} (h:OwnI w B v l) {k:Nat} (hk:v.ownBlock=some k):∃ cs,w.heap[k]?=some (.cells cs 3 (0,0)):=by
 rcases h.2 with ⟨e,_⟩ | ⟨g,cap,cur,e,_,hh,_⟩
 · rw [e] at hk;cases hk
 · rw [e] at hk
   injection hk with hk
   have hk:g=k:=hk
   subst hk
   exact ⟨_,hh⟩
theorem type_ne {k:Nat} {c1 c2:Array Value} {t1 t2:TypeId} (h1:w.heap[k]?=some (.cells c1 t1 (0,0))) (h2:w.heap[k]?=some (.cells c2 t2 (0,0))) (hne:t1≠t2):False:=by
 rw [h1] at h2
 injection h2 with h2
 injection h2 with _ h2 _
 exact hne h2
theorem LogRows.rowNe (hr:LogRows B w lv vs l) {k:Nat} (h1:lv.ownBlock=some k):k ∉ blks vs:=fun h2 => by
 obtain ⟨c1,e1⟩:=hr.row.heap h1
 obtain ⟨i,hi,hk⟩:=mem_blks.1 h2
 have hs:=hr.each i hi (hr.len ▸ hi)
 rcases hk with hk | hk
 · obtain ⟨c2,e2⟩:=OwnRow.heap hs.spans hk
   exact type_ne e1 e2 (by decide)
 · obtain ⟨c2,e2⟩:=hs.ends.heap hk
   exact type_ne e1 e2 (by decide)
theorem HO.live_plus (h0:HO w0 X H w v d j h lv vs) (x:Chg S w w') (hS:∀ k,S k→H k) {N:Nat→Prop} (hN:NewIn w w' N):Live w0 (Plus X N) w' v d :=
 (h0.live.addChg x fun k hk => ⟨h0.sub k (hS k hk),(h0.new k (hS k hk)).1⟩).drop fun k hk => hk.elim .inl fun e => .inr (hN k e)
theorem HO.grow (h0:HO w0 X H w v d j h lv vs) {n:Nat} (hown:OwnRow segRow 3 132 w' w0.heap.size u (vs++[⟨n,.slice none 0 0,.slice none 0 0⟩])) (hg:w.grownBy w' lv.ownBlock) (hb:u.ownBlock=lv.ownBlock∨u.ownBlock=some w.heap.size) :
  ∃ N,NewIn w (w'.setCell ⟨j,3,none⟩ u) N∧HO w0 (Plus X N) (Plus H N) (w'.setCell ⟨j,3,none⟩ u) v d j { h with l:=h.l++[⟨n,[]⟩] } u (vs++[⟨n,.slice none 0 0,.slice none 0 0⟩])∧HK X H w (w'.setCell ⟨j,3,none⟩ u):=by
 have hj:=h0.inH j (.inl rfl)
 have hjl:=h0.blk.lt
 have hc1:=chg_of_grown hg
 have hc2:Chg (fun k => k=j) w' (w'.setCell ⟨j,3,none⟩ u):=(Chg.refl (fun k => k=j) w').setCell (p:=⟨j,3,none⟩) (fun _ => rfl) _
 have hsz:(w'.setCell ⟨j,3,none⟩ u).heap.size=w'.heap.size:=by simp
 have hlv:∀ k,lv.ownBlock=some k→H k:=fun k hk => h0.inH k (.inr (.inl hk))
 have hult:=hown.lt
 have hune:∀ k,u.ownBlock=some k→k≠j:=fun k hk e => by
  rcases hb with hb | hb
  · exact h0.ne k (.inl (hb ▸ hk)) e
  · rw [hb] at hk;injection hk with hk;omega
 have hc:Chg (fun k => lv.ownBlock=some k∨k=j) w (w'.setCell ⟨j,3,none⟩ u):=(Chg.mono hc1 fun k _ e => .inl e).trans (Chg.mono hc2 fun k _ e => .inr e)
 refine ⟨fun k => u.ownBlock=some k∧w.heap.size≤k,fun k hk => ⟨hk.2,by rw [hsz];exact (hult k hk.1).2⟩,?_,Chg.mono hc fun k _ e => .inr (e.elim (hlv k) fun e => by rw [e];exact hj)⟩
 have hkeep:∀ k,k∈blks vs→¬ (lv.ownBlock=some k∨k=j):=fun k hk e => e.elim (fun e => h0.rows.rowNe e hk) (fun e => h0.ne k (.inr hk) e)
 refine ⟨h0.live_plus hc (fun k e => e.elim (hlv k) fun e => by rw [e];exact hj) fun k hk => ⟨hk.2,by rw [hsz];exact (hult k hk.1).2⟩,(h0.blk.chg hc1 (fun e => h0.ne j (.inl e) rfl)).set 3 _,⟨hown.chg hc2 hune,by simp [h0.rows.len],fun i hi hi' => ?_,fun i k hi hk hne b hb1 hb2 => ?_⟩,fun k hk => ?_,fun k hk => hk.elim (fun e => .inl (h0.sub k e)) .inr,fun k hk => ?_⟩
 · by_cases e:i<vs.length
   · rw [List.getElem_append_left e,List.getElem_append_left (by rw [← h0.rows.len];exact e)]
     exact (h0.rows.each i e (by rw [← h0.rows.len];exact e)).chg hc fun k hk => hkeep k (mem_blks.2 ⟨i,e,mem_segBlks.1 hk⟩)
   · have hi2:i=vs.length:=by rw [List.length_append,List.length_singleton] at hi;omega
     subst hi2
     rw [List.getElem_append_right (Nat.le_refl _),List.getElem_append_right (by rw [h0.rows.len];exact Nat.le_refl _)]
     simp only [Nat.sub_self,h0.rows.len,List.getElem_singleton]
     exact ⟨rfl,OwnRow.nil _ _,OwnI.nil _ _⟩
 · have hemp:segBlks ⟨n,.slice none 0 0,.slice none 0 0⟩=[]:=rfl
   by_cases e1:i<vs.length
   · by_cases e2:k<vs.length
     · rw [List.getElem_append_left e1] at hb1
       rw [List.getElem_append_left e2] at hb2
       exact h0.rows.apart i k e1 e2 hne b hb1 hb2
     · have hk2:k=vs.length:=by rw [List.length_append,List.length_singleton] at hk;omega
       subst hk2
       rw [List.getElem_append_right (Nat.le_refl _)] at hb2
       simp only [Nat.sub_self,List.getElem_singleton] at hb2
       rw [hemp] at hb2
       cases hb2
   · have hi2:i=vs.length:=by rw [List.length_append,List.length_singleton] at hi;omega
     subst hi2
     rw [List.getElem_append_right (Nat.le_refl _)] at hb1
     simp only [Nat.sub_self,List.getElem_singleton] at hb1
     rw [hemp] at hb1
     cases hb1
 · rcases hk with rfl | hk | hk
   · exact .inl hj
   · rcases hb with hb | hb
     · exact .inl (hlv k (hb ▸ hk))
     · refine .inr ⟨hk,?_⟩
       rw [hb] at hk;injection hk with hk;omega
   · refine .inl (h0.inH k (.inr (.inr ?_)))
     obtain ⟨i,hi,hk⟩:=mem_blks.1 hk
     by_cases e:i<vs.length
     · rw [List.getElem_append_left e] at hk
       exact mem_blks.2 ⟨i,e,hk⟩
     · have hi2:i=vs.length:=by rw [List.length_append,List.length_singleton] at hi;omega
       subst hi2
       rw [List.getElem_append_right (Nat.le_refl _)] at hk
       simp only [Nat.sub_self,List.getElem_singleton] at hk
       rcases hk with hk | hk <;> cases hk
 · rcases hk with hk | ⟨hk,hk2⟩
   · exact ⟨(h0.new k hk).1,Nat.lt_of_lt_of_le (h0.new k hk).2 hc.size⟩
   · exact ⟨(hult k hk).1,by rw [hsz];exact (hult k hk).2⟩
structure Pend (w0 w W:World) (sv ev:Value) (xs:List Sp.Span) (x:Sp.Span) (su eu:Option Value):Prop where
 chg:Chg (fun k => sv.ownBlock=some k∨ev.ownBlock=some k) w W
 sp:match su with
  | none => OwnSp W w0.heap.size sv xs
  | some u => OwnSp W w0.heap.size u (xs++[x])∧∀ k,u.ownBlock=some k→sv.ownBlock=some k∨w.heap.size≤k
 en:match eu with
  | none => OwnI W w0.heap.size ev (sgEnds xs)
  | some u => OwnI W w0.heap.size u (sgEnds (xs++[x]))∧∀ k,u.ownBlock=some k→ev.ownBlock=some k∨w.heap.size≤k
variable {W W':World} {sv ev:Value} {xs:List Sp.Span} {x:Sp.Span} {su eu:Option Value}
theorem Pend.start (h1:OwnSp w w0.heap.size sv xs) (h2:OwnI w w0.heap.size ev (sgEnds xs)):Pend w0 w w sv ev xs x none none:=⟨Chg.refl _ _,h1,h2⟩
theorem sp_en_ne {B1 B2:Nat} {u1 u2:Value} {ys:List Sp.Span} {zs:List Int} (h1:OwnSp w B1 u1 ys) (h2:OwnI w B2 u2 zs) {k:Nat} (e1:u1.ownBlock=some k) (e2:u2.ownBlock=some k):False:=by
 obtain ⟨c1,g1⟩:=OwnRow.heap h1 e1
 obtain ⟨c2,g2⟩:=h2.heap e2
 exact type_ne g1 g2 (by decide)
theorem Pend.size (h:Pend w0 w W sv ev xs x su eu):w.heap.size≤W.heap.size:=h.chg.size
theorem Pend.below (h:Pend w0 w W sv ev xs x su eu) (y:Below W.heap.size W W'):Pend w0 w W' sv ev xs x su eu:=by
 obtain ⟨h1,h2,h3⟩:=h
 refine ⟨h1.trans (Chg.of_below y),?_,?_⟩
 · cases su with
   | none => exact OwnRow.below h2 y
   | some u => exact ⟨OwnRow.below h2.1 y,h2.2⟩
 · cases eu with
   | none => exact h3.kept y
   | some u => exact ⟨h3.1.kept y,h3.2⟩
theorem Pend.spans (h:Pend w0 w W sv ev xs x none eu) {u:Value} (ho:OwnSp W' w0.heap.size u (xs++[x])) (hg:W.grownBy W' sv.ownBlock) (hb:u.ownBlock=sv.ownBlock∨u.ownBlock=some W.heap.size):Pend w0 w W' sv ev xs x (some u) eu:=by
 obtain ⟨h1,h2,h3⟩:=h
 have hc:=chg_of_grown hg
 refine ⟨h1.trans (Chg.mono hc fun k _ e => .inl e),⟨ho,fun k hk => ?_⟩,?_⟩
 · rcases hb with hb | hb
   · exact .inl (hb ▸ hk)
   · rw [hb] at hk;injection hk with hk;exact .inr (by rw [← hk];exact h1.size)
 · cases eu with
   | none => exact h3.chg hc fun k hk e => sp_en_ne h2 h3 e hk
   | some u2 => exact ⟨h3.1.chg hc fun k hk e => sp_en_ne h2 h3.1 e hk,h3.2⟩
theorem Pend.ends (h:Pend w0 w W sv ev xs x su none) {u:Value} (ho:OwnI W' w0.heap.size u (sgEnds (xs++[x]))) (hg:W.grownBy W' ev.ownBlock) (hb:u.ownBlock=ev.ownBlock∨u.ownBlock=some W.heap.size):Pend w0 w W' sv ev xs x su (some u):=by
 obtain ⟨h1,h2,h3⟩:=h
 have hc:=chg_of_grown hg
 refine ⟨h1.trans (Chg.mono hc fun k _ e => .inr e),?_,⟨ho,fun k hk => ?_⟩⟩
 · cases su with
   | none => exact OwnRow.chg h2 hc fun k hk e => sp_en_ne h2 h3 hk e
   | some u2 => exact ⟨OwnRow.chg h2.1 hc fun k hk e => sp_en_ne h2.1 h3 hk e,h2.2⟩
 · rcases hb with hb | hb
   · exact .inl (hb ▸ hk)
   · rw [hb] at hk;injection hk with hk;exact .inr (by rw [← hk];exact h1.size)
theorem seg_blks_ne (h0:HO w0 X H w v d j h lv vs) {i n:Nat} (hi:i<vs.length) (hn:n<vs.length) (hne:i≠n) {k:Nat} (h1:k∈segBlks vs[i]) (h2:vs[n].sv.ownBlock=some k∨vs[n].ev.ownBlock=some k):False :=
 h0.rows.apart i n hi hn hne k h1 (mem_segBlks.2 h2)
theorem HO.finish (h0:HO w0 X H w v d j h lv vs) {init:List Sg} {a:Sg} (hl:h.l=init++[a]) {g c n:Nat} (hlv:lv=.slice (some ⟨g,0,none⟩) n c) (hi:init.length<vs.length) (hvs:vs[init.length]=⟨a.first,sv,ev⟩)
  {u1 u2:Value} (hp:Pend w0 w W sv ev a.spans x (some u1) (some u2)) {W2:World} (hW2:W2=(W.setCell ⟨g,init.length*3+1,none⟩ u1).setCell ⟨g,init.length*3+2,none⟩ u2) :
  ∃ N vs',NewIn w W2 N∧HO w0 (Plus X N) (Plus H N) W2 v d j { h with l:=init++[⟨a.first,a.spans++[x]⟩] } lv vs'∧HK X H w W2:=by
 obtain ⟨hc1,⟨hs,hsb⟩,⟨he,heb⟩⟩:=hp
 have hsv:vs[init.length].sv=sv:=by rw [hvs]
 have hev:vs[init.length].ev=ev:=by rw [hvs]
 have hbg:∀ k,sv.ownBlock=some k∨ev.ownBlock=some k→k∈blks vs:=fun k hk => mem_blks.2 ⟨init.length,hi,by rw [hsv,hev];exact hk⟩
 have hHb:∀ k,sv.ownBlock=some k∨ev.ownBlock=some k→H k:=fun k hk => h0.inH k (.inr (.inr (hbg k hk)))
 have hgo:lv.ownBlock=some g:=by rw [hlv];rfl
 have hHg:H g:=h0.inH g (.inr (.inl hgo))
 have hgn:¬ (sv.ownBlock=some g∨ev.ownBlock=some g):=fun e => h0.rows.rowNe hgo (hbg g e)
 have hrow:OwnRow segRow 3 132 W w0.heap.size lv vs:=h0.rows.row.chg hc1 fun k hk e => by rw [hgo] at hk;injection hk with hk;subst hk;exact hgn e
 have hc2:Chg (fun k => k=g) W W2:=by
  rw [hW2]
  exact ((Chg.refl (fun k => k=g) W).setCell (p:=⟨g,_,none⟩) (fun _ => rfl) _).setCell (p:=⟨g,_,none⟩) (fun _ => rfl) _
 have hsz:W2.heap.size=W.heap.size:=by rw [hW2];simp
 have hc:Chg (fun k => (sv.ownBlock=some k∨ev.ownBlock=some k)∨k=g) w W2:=(Chg.mono hc1 fun k _ e => .inl e).trans (Chg.mono hc2 fun k _ e => .inr e)
 have hH:∀ k,((sv.ownBlock=some k∨ev.ownBlock=some k)∨k=g)→H k:=fun k e => e.elim (hHb k) fun e => by rw [e];exact hHg
 obtain ⟨sW,gW⟩:=hrow.heap hgo
 have hs2:∀ k,u1.ownBlock=some k→k≠g:=fun k hk e => by
  subst e
  obtain ⟨c2,e2⟩:=OwnRow.heap hs hk
  exact type_ne gW e2 (by decide)
 have he2:∀ k,u2.ownBlock=some k→k≠g:=fun k hk e => by
  subst e
  obtain ⟨c2,e2⟩:=he.heap hk
  exact type_ne gW e2 (by decide)
 have hslt:=OwnRow.lt hs
 have helt:=he.lt'
 have hlen:h.l.length=init.length+1:=by rw [hl];simp
 have hvl:vs.length=init.length+1:=by rw [h0.rows.len,hlen]
 refine ⟨fun k => (u1.ownBlock=some k∨u2.ownBlock=some k)∧w.heap.size≤k,vs.set init.length ⟨a.first,u1,u2⟩,?hN,?_,Chg.mono hc fun k _ e => .inr (hH k e)⟩
 case hN => exact fun k hk => ⟨hk.2,by rw [hsz];exact hk.1.elim (fun e => (hslt k e).2) fun e => (helt k e).2⟩
 have hrow2:OwnRow segRow 3 132 W2 w0.heap.size lv (vs.set init.length ⟨a.first,u1,u2⟩):=by
  have p1:=hrow.put segRow_len init.length hi 1 u1 ⟨a.first,u1,ev⟩ (by omega) (by rw [hvs];rfl) hlv
  have hi2:init.length<(vs.set init.length ⟨a.first,u1,ev⟩).length:=by rw [List.length_set];exact hi
  have p2:=p1.put segRow_len init.length hi2 2 u2 ⟨a.first,u1,u2⟩ (by omega) (by rw [List.getElem_set_self];rfl) hlv
  rw [List.set_set] at p2
  rw [hW2]
  exact p2
 refine ⟨h0.live_plus hc hH fun k hk => ⟨hk.2,by rw [hsz];exact hk.1.elim (fun e => (hslt k e).2) fun e => (helt k e).2⟩,h0.blk.chg hc (fun e => e.elim (fun e => h0.ne j (.inr (hbg j e)) rfl) fun e => h0.ne g (.inl hgo) e.symm),⟨hrow2,by rw [List.length_set,hvl];simp,fun i hi1 hi' => ?_,fun i k hi1 hk1 hne b hb1 hb2 => ?_⟩,fun k hk => ?_,fun k hk => hk.elim (fun e => .inl (h0.sub k e)) .inr,fun k hk => ?_⟩
 · rw [List.length_set] at hi1
   by_cases e:i=init.length
   · subst e
     rw [List.getElem_set_self,List.getElem_append_right (Nat.le_refl _)]
     simp only [Nat.sub_self,List.getElem_singleton]
     exact ⟨rfl,OwnRow.chg hs hc2 hs2,he.chg hc2 he2⟩
   · have hlt:i<init.length:=by omega
     rw [List.getElem_set_ne (fun e2 => e e2.symm),List.getElem_append_left hlt]
     have h1:=h0.rows.each i hi1 (by omega)
     have ea:h.l[i]'(by omega)=init[i]:=by simp [hl,List.getElem_append_left hlt]
     rw [ea] at h1
     refine h1.chg hc fun k hk e2 => ?_
     rcases e2 with e2 | e2
     · exact seg_blks_ne h0 hi1 hi e hk (by rw [hsv,hev];exact e2)
     · subst e2
       exact h0.rows.rowNe hgo (mem_blks.2 ⟨i,hi1,mem_segBlks.1 hk⟩)
 · rw [List.length_set] at hi1 hk1
   have hnew:∀ (q:Nat) (hq:q<vs.length),q≠init.length→∀ b,b∈segBlks vs[q]→b ∉ segBlks ⟨a.first,u1,u2⟩:=fun q hq hqn b hb hb' => by
    have hbl:b<w.heap.size:=(h0.new b (h0.inH b (.inr (.inr (mem_blks.2 ⟨q,hq,mem_segBlks.1 hb⟩))))).2
    rcases mem_segBlks.1 hb' with e | e
    · rcases hsb b e with e | e
      · exact seg_blks_ne h0 hq hi hqn hb (by rw [hsv];exact .inl e)
      · omega
    · rcases heb b e with e | e
      · exact seg_blks_ne h0 hq hi hqn hb (by rw [hev];exact .inr e)
      · omega
   by_cases e1:i=init.length
   · subst e1
     rw [List.getElem_set_self] at hb1
     rw [List.getElem_set_ne hne] at hb2
     exact hnew k hk1 (fun e => hne e.symm) b hb2 hb1
   · rw [List.getElem_set_ne (fun e => e1 e.symm)] at hb1
     by_cases e2:k=init.length
     · subst e2
       rw [List.getElem_set_self] at hb2
       exact hnew i hi1 e1 b hb1 hb2
     · rw [List.getElem_set_ne (fun e => e2 e.symm)] at hb2
       exact h0.rows.apart i k hi1 hk1 hne b hb1 hb2
 · rcases hk with rfl | hk | hk
   · exact .inl (h0.inH _ (.inl rfl))
   · exact .inl (h0.inH k (.inr (.inl hk)))
   · obtain ⟨i,hi1,hk⟩:=mem_blks.1 hk
     rw [List.length_set] at hi1
     by_cases e:i=init.length
     · subst e
       rw [List.getElem_set_self] at hk
       rcases hk with hk | hk
       · rcases hsb k hk with e | e
         · exact .inl (hHb k (.inl e))
         · exact .inr ⟨.inl hk,e⟩
       · rcases heb k hk with e | e
         · exact .inl (hHb k (.inr e))
         · exact .inr ⟨.inr hk,e⟩
     · rw [List.getElem_set_ne (fun e2 => e e2.symm)] at hk
       exact .inl (h0.inH k (.inr (.inr (mem_blks.2 ⟨i,hi1,hk⟩))))
 · rcases hk with hk | ⟨hk,hk2⟩
   · exact ⟨(h0.new k hk).1,Nat.lt_of_lt_of_le (h0.new k hk).2 hc.size⟩
   · rw [hsz]
     exact hk.elim (fun e => hslt k e) fun e => helt k e
theorem HO.addX (h0:HO w0 X H w v d j h lv vs) (x:Below w.heap.size w w'):HO w0 (Also X w w') H w' v d j h lv vs :=
 ⟨h0.live.add x,h0.blk.below x,h0.rows.below x,h0.inH,fun k hk => .inl (h0.sub k hk),fun k hk => ⟨(h0.new k hk).1,Nat.lt_of_lt_of_le (h0.new k hk).2 x.size⟩⟩
theorem HO.dropX {Y:Nat→Prop} (h0:HO w0 X H w v d j h lv vs) (hY:∀ k,Y k→X k) (hH:∀ k,H k→Y k):HO w0 Y H w v d j h lv vs :=
 ⟨h0.live.drop hY,h0.blk,h0.rows,h0.inH,hH,h0.new⟩
theorem under_segs:Tryz.prog.underlying 134=some (.slice 132):=by kernel_rfl
theorem Tryz.info_seg:(Tryz.prog.info? 132).map (fun i => (i.zero,i.size,i.bytes))=some (some (.agg #[.int .i64 0,.slice none 0 0,.slice none 0 0]),3,56):=by kernel_rfl
theorem under_spans:Tryz.prog.underlying 61=some (.slice 47):=by kernel_rfl
theorem Tryz.info_span:(Tryz.prog.info? 47).map (fun i => (i.zero,i.size,i.bytes))=some (some (.agg #[.int .i64 0,.int .i64 0,.int .i64 0,.string ⟨#[]⟩,.string ⟨#[]⟩,.int .i64 0,.int .i64 0,.string ⟨#[]⟩]),8,88):=by kernel_rfl
theorem HO.post {X2 H2:Nat→Prop} {x0 W2:World} {h':Hl} {vs':List SegV} {lv':Value} {Nf:Nat→Prop} (hX2:∀ k,X k→X2 k) (hH2:∀ k,H2 k→H k∨(w.heap.size≤k∧k<x0.heap.size)) (hHX:∀ k,H k→X k) (hHH:∀ k,H k→H2 k) (hXl:∀ k,X k→k<w.heap.size)
  (hc:HK X H w x0) (hs:∀ k,H2 k→X2 k) (hN:NewIn x0 W2 Nf) (ho:HO w0 (Plus X2 Nf) (Plus H2 Nf) W2 v d j h' lv' vs') (hk:HK X2 H2 x0 W2):HPost w0 X H w v d j h' W2:=by
 have hz1:w.heap.size≤x0.heap.size:=Chg.size hc
 have hz2:x0.heap.size≤W2.heap.size:=Chg.size hk
 refine ⟨fun k => (H2 k∧w.heap.size≤k)∨Nf k,fun k hk => ?_,HO.hs (lv:=lv') (vs:=vs') ⟨ho.live.drop fun k hk => ?_,ho.blk,ho.rows,fun k hk => ?_,fun k hk => hk.elim (fun e => .inl (hHX k e)) .inr,fun k hk => ?_⟩,Chg.trans hc (Chg.mono hk fun k _ e => ?_)⟩
 · rcases hk with ⟨h1,h2⟩ | h1
   · exact ⟨h2,(ho.new k (.inl h1)).2⟩
   · exact ⟨Nat.le_trans hz1 (hN k h1).1,(hN k h1).2⟩
 · rcases hk with hk | ⟨hk,_⟩ | hk
   · exact .inl (hX2 k hk)
   · exact .inl (hs k hk)
   · exact .inr hk
 · rcases ho.inH k hk with h1 | h1
   · rcases hH2 k h1 with h2 | ⟨h2,_⟩
     · exact .inl h2
     · exact .inr (.inl ⟨h1,h2⟩)
   · exact .inr (.inr h1)
 · rcases hk with hk | ⟨hk,_⟩ | hk
   · exact ho.new k (.inl (hHH k hk))
   · exact ho.new k (.inl hk)
   · exact ho.new k (.inr hk)
 · rcases e with e | e
   · exact .inl fun e2 => e (hX2 k e2)
   · rcases hH2 k e with h2 | ⟨h2,_⟩
     · exact .inr h2
     · exact .inl fun e2 => by have:=hXl k e2;omega
def iRow (z:Int):List Value:=[.int .i64 z]
theorem iRow_len:∀ z,(iRow z).length=1:=fun _ => rfl
theorem iRow_one:∀ z,∀ u∈iRow z,u.oneCell'=true:=fun z u hu => by
 simp [iRow] at hu
 rw [hu];rfl
theorem flat_iRow (l:List Int):l.flatMap iRow=l.map (Value.int .i64):=by
 induction l with
 | nil => rfl
 | cons a l ih => rw [List.flatMap_cons,ih];rfl
theorem ownI_row {l:List Int} (h:OwnI w B v l):OwnRow iRow 1 3 w B v l:=by
 unfold OwnRow
 rw [flat_iRow]
 exact h
theorem ownI_of {l:List Int} (h:OwnRow iRow 1 3 w B v l):OwnI w B v l:=by
 unfold OwnRow at h
 rw [flat_iRow] at h
 exact h
theorem HO.finish' (h0:HO w0 X H w v d j h lv vs) {init:List Sg} {fn n:Nat} (hl:h.l=init++[⟨fn,xs⟩]) (hn:n=init.length) {g m c:Nat} (hlv:lv=.slice (some ⟨g,0,none⟩) m c) (hi:n<vs.length) (hvs:vs[n]=⟨fn,sv,ev⟩)
  {u1 u2:Value} (hp:Pend w0 w W sv ev xs x (some u1) (some u2)) {W2:World} (hW2:W2=(W.setCell ⟨g,n*3+1,none⟩ u1).setCell ⟨g,n*3+2,none⟩ u2) :
  ∃ N vs',NewIn w W2 N∧HO w0 (Plus X N) (Plus H N) W2 v d j { h with l:=init++[⟨fn,xs++[x]⟩] } lv vs'∧HK X H w W2:=by
 subst hn
 exact h0.finish (a:=⟨fn,xs⟩) hl hlv hi hvs hp hW2
theorem HO.still (h0:HO w0 X H w v d j h lv vs) {g m c n:Nat} (hlv:lv=.slice (some ⟨g,0,none⟩) m c) (hi:n<vs.length) {fn:Nat} (hvs:vs[n]=⟨fn,sv,ev⟩) (hc:Chg (fun k => sv.ownBlock=some k∨ev.ownBlock=some k) w W) :
  (W.cell? ⟨g,n*3,none⟩=some (.int .i64 fn)∧W.cell? ⟨g,n*3+1,none⟩=some sv∧W.cell? ⟨g,n*3+2,none⟩=some ev)∧W.frozen? ⟨g,n*3+1,none⟩=false∧W.frozen? ⟨g,n*3+2,none⟩=false:=by
 have hgo:lv.ownBlock=some g:=by rw [hlv];rfl
 have hrow:OwnRow segRow 3 132 W w0.heap.size lv vs:=h0.rows.row.chg hc fun k hk e => by
  rw [hgo] at hk;injection hk with hk;subst hk
  exact h0.rows.rowNe hgo (mem_blks.2 ⟨n,hi,by rw [hvs];exact e⟩)
 obtain ⟨g',c',hlv',_,_,_,hcs⟩:=hrow.at_ segRow_len n hi
 rw [hlv] at hlv'
 injection hlv' with e1 _ _
 injection e1 with e1
 injection e1 with e1 _ _
 subst e1
 have h1:=hcs 0 _ rfl
 have h2:=hcs 1 _ rfl
 have h3:=hcs 2 _ rfl
 rw [hvs] at h1 h2 h3
 exact ⟨⟨h1.1,h2.1,h3.1⟩,h2.2,h3.2⟩
theorem HO.inSeg (h0:HO w0 X H w v d j h lv vs) {n fn:Nat} (hi:n<vs.length) (hvs:vs[n]=⟨fn,sv,ev⟩) {k:Nat} (hk:sv.ownBlock=some k∨ev.ownBlock=some k):H k:=h0.inH k (.inr (.inr (mem_blks.2 ⟨n,hi,by rw [hvs];exact hk⟩)))
end
end Go.Proofs.YtdacanghbepjpaaGreatDoor
