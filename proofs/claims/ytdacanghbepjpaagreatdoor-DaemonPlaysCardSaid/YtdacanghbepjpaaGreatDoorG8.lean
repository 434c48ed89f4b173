/- A host's node whose disk does not fail and has room: what each act comes to, plainly. No program in sight. A host's daemon in memory, beside its log. A host's daemon: none, Cursor, Waiting, keep: walked. A host's daemon: skip, gather: walked. A host's daemon: gather: walked. A host's daemon: Step, Take, Open: walked. A host's daemon: Take: walked. A host's daemon: Open: walked. A node and what lies beside it. A host's node in memory: each act of the laws, the node's blocks told: walked. Spans, truth values and acts of a host's log that come in. Acts of the laws on a daemon that come in. The laws on a daemon: a node that begins, that is opened; what is written; what is beyond; a span, an answer: walked. The laws on a daemon: a span, an answer, what is beyond: walked. The laws on a daemon: which acts are beyond: walked. The chapter's daemon: what it comes to, plainly. -/
import Derived.Test.YtdacanghbepjpaaGreatDoorG7
import Derived.Test.YtdacanghbepjpaaGreatDoorM6
import Derived.Test.YtdacanghbepjpaaGreatDoorG6
import Derived.Test.YtdacanghbepjpaaGreatDoorG2
import Derived.Test.YtdacanghbepjpaaGreatDoorSink2
import Derived.Test.YtdacanghbepjpaaGreatDoorG5
import Derived.Test.YtdacanghbepjpaaGreatDoorM5
import Derived.SliceStrings
import Derived.ProofKit
import Derived.OpenShut
namespace Go.Proofs.YtdacanghbepjpaaGreatDoor
set_option linter.unusedSimpArgs false
set_option linter.unusedVariables false
open Dsk
def surApp (l:List Sg) (s:Nat):Nat:=match l.getLast? with
 | none => 0
 | some a => if a.spans.length<16 then sureOf l s else nextOf l
section
variable {d d':Dk} {l:List Sg} {s s' k c:Nat} {st:Int} {dr:Files} {h h':Hl} {x:Dm} {Ls:List Sp.Span}
theorem app_exact (h:LSt d l [] s dr) (hoff:d.off=false) (hf:d.fail=none) (hr:Room d l dr) (hb:nextOf l≤999999999) (y:Sp.Span) (hy:Sp.May y) :
  ∃ d' s',appP d ⟨st,false,l⟩ y=(0,⟨st,false,pushed l y⟩,d')∧Kept d d'∧LSt d' (pushed l y) [] s' dr∧KR l s (pushed l y) s'∧sureOf (pushed l y) s'=surApp l s:=by
 have hy1:∀ z∈[y],Sp.May z:=fun z hz => by
  obtain rfl:z=y:=by simpa using hz
  exact hy
 rcases List.eq_nil_or_concat l with rfl | ⟨init,a,rfl⟩
 · obtain ⟨d1,s1,e,k1,k2,k3,hs1⟩:=app_calm (st:=st) h hoff hf hr hb y hy
   have h0:s=0:=by have:=h.safe;simpa [lastT] using this
   have h1:s1=0:=by rcases hs1 with e | e <;> omega
   subst h1
   refine ⟨d1,0,e,k1,k2,k3,?_⟩
   show 0+sureN [y] 0=0
   have h2:=sureN_spec hy1 0
   have h3:=frm_len hy
   by_cases h4:sureN [y] 0=0
   · omega
   · have h5:=sureN_le [y] 0
     have h6:sureN [y] 0=1:=by simp at h5;omega
     rw [h6] at h2
     have:=h2.1
     simp [sgT] at this
     rw [this] at h3
     simp at h3
 · rw [List.concat_eq_append] at *
   have hsafe:=h.safe
   rw [List.append_nil,lastT_snoc] at hsafe
   have hma:∀ z∈a.spans,Sp.May z:=h.sgs.may a (by simp)
   have hsa:surApp (init++[a]) s=if a.spans.length<16 then sureOf (init++[a]) s else nextOf (init++[a]):=by unfold surApp;rw [getLast_snoc]
   by_cases h16:a.spans.length<16
   · rw [if_pos h16] at hsa
     obtain ⟨d1,s1,e,k1,k2,k3,hs1⟩:=app_calm (st:=st) h hoff hf hr hb y hy
     refine ⟨d1,s1,e,k1,k2,k3,?_⟩
     have hpu:pushed (init++[a]) y=init++[⟨a.first,a.spans++[y]⟩]:=by unfold pushed;rw [getLast_snoc];simp only;rw [if_pos h16,pushL_snoc]
     have h1:=k3.sure
     rw [hsa]
     rw [hpu,sureOf_snoc,sureOf_snoc] at h1 ⊢
     simp only at h1 ⊢
     have h2:=sureN_snoc hma hy hsafe
     rcases hs1 with rfl | rfl
     · omega
     · have:=sureN_mono (a.spans++[y]) (Nat.zero_le s)
       omega
   · rw [if_neg h16] at hsa
     have hne:∀ b,(init++[a]).getLast?=some b→b.spans≠[]:=fun b e => by
      rw [getLast_snoc] at e
      injection e with e
      subst e
      intro e2
      rw [e2] at h16
      simp at h16
     have hpu:pushed (init++[a]) y=init++[a]++[⟨nextOf (init++[a]),[y]⟩]:=by unfold pushed;rw [getLast_snoc,nextOf_snoc];simp only;rw [if_neg h16]
     rcases begin_out (st:=st) h hoff hne hb [y] hy1 (by simp) with ⟨_,_,_,_,_,_,e⟩ | ⟨d1,e,r1,r2,r3⟩ | ⟨_,_,e⟩
     · exact absurd e hr.not
     · rw [sgT_one] at e
       refine ⟨d1,0,?_,r1,by rw [hpu];exact r2,by rw [hpu];exact r3,?_⟩
       · unfold appP
         rw [if_neg (fun e => e hy)]
         simp only [getLast_snoc]
         rw [if_neg h16,e]
         simp only [ne_eq,not_true_eq_false,if_false]
         rw [hpu,pushL_snoc]
         rfl
       · rw [hsa,hpu,sureOf_snoc]
         simp only
         have h2:=sureN_spec hy1 0
         have h3:=frm_len hy
         have h5:=sureN_le [y] 0
         by_cases h4:sureN [y] 0=0
         · omega
         · have h6:sureN [y] 0=1:=by simp at h5;omega
           rw [h6] at h2
           have:=h2.1
           simp [sgT] at this
           rw [this] at h3
           simp at h3
     · exact absurd hf e.1
theorem rot_exact (h:LSt d l [] s dr) (hoff:d.off=false) (hf:d.fail=none) (hr:Room d l dr) (hb:nextOf l≤999999999) :
  ∃ d' s',rotP d ⟨st,false,l⟩=(0,⟨st,false,turned l⟩,d')∧Kept d d'∧LSt d' (turned l) [] s' dr∧KR l s (turned l) s'∧sureOf (turned l) s'=(match l.getLast? with | none => sureOf l s | some a => if a.spans=[] then sureOf l s else nextOf l):=by
 obtain ⟨d1,s1,e,k1,k2,k3,hs1⟩:=rot_calm (st:=st) h hoff hf hr hb
 refine ⟨d1,s1,e,k1,k2,k3,?_⟩
 have h1:=k3.sure
 unfold turned at h1 ⊢
 rcases List.eq_nil_or_concat l with rfl | ⟨init,a,rfl⟩
 · rfl
 · rw [List.concat_eq_append] at *
   rw [getLast_snoc] at h1 ⊢
   simp only at h1 ⊢
   split
   · rename_i hn
     rw [if_pos hn] at h1
     rw [sureOf_snoc,sureOf_snoc,hn]
     have h2:=sureN_le ([]:List Sp.Span) s
     have h3:=sureN_le ([]:List Sp.Span) s1
     simp at h2 h3
     omega
   · rw [sureOf_snoc,nextOf_snoc]
     have h3:=sureN_le ([]:List Sp.Span) s1
     simp at h3
     simp only
     omega
theorem drop_any (hc:Chained l) (j:Nat) (hj:j<l.length):firstOf (l.drop j)=firstOf l+(recs (l.take j)).length∧recs l=recs (l.take j)++recs (l.drop j):=by
 have e1:recs l=recs (l.take j)++recs (l.drop j):=by
  unfold recs
  rw [← List.flatMap_append,List.take_append_drop]
 refine ⟨?_,e1⟩
 have e2:l.take (j+1)=l.take j++[l[j]]:=List.take_succ_eq_append_getElem hj
 have hc2:Chained (l.take j++[l[j]]):=by
  rw [← e2]
  refine chained_front _ (l.drop (j+1)) ?_
  rw [List.take_append_drop]
  exact hc
 have h1:=first_recs _ _ hc2
 have h2:firstOf (l.take j++[l[j]])=firstOf l:=by
  rw [← e2]
  cases l with
  | nil => simp at hj
  | cons a r => rfl
 rw [h2] at h1
 rw [List.drop_eq_getElem_cons hj]
 exact h1
structure NodeC (d:Dk) (h:Hl) (s:Nat) (x:Dm) (Ls:List Sp.Span) (c k:Nat):Prop where
 node:NodeP d h s x
 fail:d.fail=none
 room:d.room=c
 tot:total d.files≤120*k
 len:d.files.length≤k
 recs:recs h.l=Ls.drop (firstOf h.l)
 next:nextOf h.l=Ls.length
 many:Ls.length≤k
theorem NodeC.le (n:NodeC d h s x Ls c k):firstOf h.l≤sureOf h.l s∧sureOf h.l s≤Ls.length:=by
 have h1:=first_le_sure n.node.run.chain s
 have h2:=sureOf_le h.l s
 have h3:=n.next
 omega
theorem NodeC.hasRoom (n:NodeC d h s x Ls c k) (hk:k≤1000) (hc:120*(k+2)≤c) (f:LSt d h.l [] s dr):Room d h.l dr:=by
 obtain ⟨h1,h2⟩:=f.total
 have h3:=n.tot
 have h4:=n.len
 have h5:=n.room
 simp only [List.length_nil,Nat.add_zero] at h1
 unfold Room
 omega
theorem NodeC.may (n:NodeC d h s x Ls c k):∀ y∈Ls.drop (firstOf h.l),Sp.May y:=fun y hy => by
 rw [← n.recs] at hy
 obtain ⟨dr,f,_⟩:=n.node.run.file
 obtain ⟨a,ha,hya⟩:=List.mem_flatMap.1 hy
 exact f.sgs.may a ha y hya
theorem NodeC.grw (n:NodeC d h s x Ls c k) (g:Grw d d' 120 1):d'.room=c∧total d'.files≤120*(k+1)∧d'.files.length≤k+1:=by
 have h1:=g.total
 have h2:=g.len
 have h3:=n.tot
 have h4:=n.len
 exact ⟨g.room.trans n.room,by omega,by omega⟩
theorem NodeC.app (n:NodeC d h s x Ls c k) (hk:k≤1000) (hc:120*(k+2)≤c) (y:Sp.Span) (hy:Sp.May y) :
  (appP d h y).1=0∧(appP d h y).2.1.l=pushed h.l y∧∃ s',NodeC (appP d h y).2.2 (appP d h y).2.1 s' x (Ls++[y]) c (k+1)∧sureOf (pushed h.l y) s'=surApp h.l s:=by
 obtain ⟨dr,f0,cu⟩:=n.node.run.file
 have hnx:nextOf h.l≤999999999:=by have:=n.next;have:=n.many;omega
 obtain ⟨d1,s1,e,k1,k2,k3,k4⟩:=app_exact (st:=h.st) f0 n.node.off n.fail (n.hasRoom hk hc f0) hnx y hy
 have g:=f0.ok.app_grw h y
 have hl:=n.node.run.hl
 rw [← hl] at e
 rw [e] at g ⊢
 obtain ⟨g1,g2,g3⟩:=n.grw g
 refine ⟨rfl,rfl,s1,⟨n.node.moved ⟨⟨rfl,k1.1.trans n.node.off,k1.2.1.trans n.node.run.runs.2.2⟩,dr,k2,cu⟩ ⟨k3,?_⟩,k1.2.2.2 n.fail,g1,g2,g3,?_,?_,?_⟩,k4⟩
 · rw [first_pushed];exact n.le.1
 · show Go.Proofs.YtdacanghbepjpaaGreatDoor.recs (pushed h.l y)=(Ls++[y]).drop (firstOf (pushed h.l y))
   have:=n.le
   rw [recs_pushed,first_pushed,n.recs,List.drop_append_of_le_length (by omega)]
 · show nextOf (pushed h.l y)=_
   rw [next_pushed n.node.run.chain k2.sgs.chain,n.next,List.length_append,List.length_singleton]
 · have:=n.many
   rw [List.length_append,List.length_singleton];omega
theorem NodeC.sync (n:NodeC d h s x Ls c k) :
  (syncP d h).1=0∧(syncP d h).2.1=h∧∃ s',NodeC (syncP d h).2.2 h s' x Ls c (k+1)∧sureOf h.l s'=Ls.length:=by
 obtain ⟨dr,f0,cu⟩:=n.node.run.file
 obtain ⟨d1,e,k1,k2,k3⟩:=sync_calm (st:=h.st) f0 n.node.off n.fail
 have g:=f0.ok.syncP_grw h
 have hl:=n.node.run.hl
 rw [← hl] at e
 rw [e] at g ⊢
 obtain ⟨g1,g2,g3⟩:=n.grw g
 refine ⟨rfl,rfl,_,⟨n.node.moved ⟨⟨n.node.run.runs.1,k1.1.trans n.node.off,k1.2.1.trans n.node.run.runs.2.2⟩,dr,k2,cu⟩ ⟨k3,n.le.1⟩,k1.2.2.2 n.fail,g1,g2,g3,n.recs,n.next,Nat.le_succ_of_le n.many⟩,?_⟩
 rw [sureOf_all k2.sgs,n.next]
theorem NodeC.rot (n:NodeC d h s x Ls c k) (hk:k≤1000) (hc:120*(k+2)≤c) :
  (rotP d h).1=0∧(rotP d h).2.1.l=turned h.l∧∃ s',NodeC (rotP d h).2.2 (rotP d h).2.1 s' x Ls c (k+1)∧sureOf (turned h.l) s'=(match h.l.getLast? with | none => sureOf h.l s | some a => if a.spans=[] then sureOf h.l s else nextOf h.l):=by
 obtain ⟨dr,f0,cu⟩:=n.node.run.file
 have hnx:nextOf h.l≤999999999:=by have:=n.next;have:=n.many;omega
 obtain ⟨d1,s1,e,k1,k2,k3,k4⟩:=rot_exact (st:=h.st) f0 n.node.off n.fail (n.hasRoom hk hc f0) hnx
 have g:=f0.ok.rot_grw h
 have hl:=n.node.run.hl
 rw [← hl] at e
 rw [e] at g ⊢
 obtain ⟨g1,g2,g3⟩:=n.grw g
 obtain ⟨t1,t2,t3,_,_⟩:=recs_turned h.l
 refine ⟨rfl,rfl,s1,⟨n.node.moved ⟨⟨rfl,k1.1.trans n.node.off,k1.2.1.trans n.node.run.runs.2.2⟩,dr,k2,cu⟩ ⟨k3,by rw [t2];exact n.le.1⟩,k1.2.2.2 n.fail,g1,g2,g3,?_,t3.trans n.next,Nat.le_succ_of_le n.many⟩,k4⟩
 show Go.Proofs.YtdacanghbepjpaaGreatDoor.recs (turned h.l)=Ls.drop (firstOf (turned h.l))
 rw [t1,t2]
 exact n.recs
theorem NodeC.ret (n:NodeC d h s x Ls c k) (m:Int) (hm:1≤m) :
  (retP m d h).1=0∧(retP m d h).2.1.l=h.l.drop (h.l.length-m.toNat)∧∃ s',NodeC (retP m d h).2.2 (retP m d h).2.1 s' x Ls c (k+1)∧sureOf (h.l.drop (h.l.length-m.toNat)) s'=sureOf h.l s:=by
 obtain ⟨dr,f0,cu⟩:=n.node.run.file
 obtain ⟨d1,e,k1,k2,k3,k4⟩:=ret_calm (st:=h.st) f0 n.node.off n.fail m hm
 have g:=f0.ok.ret_grw h m
 have hl:=n.node.run.hl
 rw [← hl] at e
 rw [e] at g ⊢
 obtain ⟨g1,g2,g3⟩:=n.grw g
 have hle:=n.le
 obtain ⟨j,hj⟩:∃ j,j=h.l.length-m.toNat:=⟨_,rfl⟩
 rw [← hj] at k2 k3 k4 ⊢
 have hfl:firstOf (h.l.drop j)≤sureOf h.l s:=by rw [← k4];exact first_le_sure k2.sgs.chain s
 refine ⟨rfl,rfl,s,⟨n.node.moved ⟨⟨rfl,k1.1.trans n.node.off,k1.2.1.trans n.node.run.runs.2.2⟩,dr,k2,cu⟩ ⟨k3,hfl⟩,k1.2.2.2 n.fail,g1,g2,g3,?_,?_,Nat.le_succ_of_le n.many⟩,k4⟩
 · show Go.Proofs.YtdacanghbepjpaaGreatDoor.recs (h.l.drop j)=Ls.drop (firstOf (h.l.drop j))
   by_cases hjl:j<h.l.length
   · obtain ⟨e1,e2⟩:=drop_any n.node.run.chain j hjl
     rw [e1,← List.drop_drop,← n.recs,e2,List.drop_left]
   · have h0:h.l=[]:=List.length_eq_zero_iff.1 (by omega)
     have hr:=n.recs
     have hn:=n.next
     rw [h0] at hr hn ⊢
     have:Ls=[]:=List.length_eq_zero_iff.1 hn.symm
     rw [this]
     simp [Go.Proofs.YtdacanghbepjpaaGreatDoor.recs]
 · show nextOf (h.l.drop j)=_
   by_cases hjl:j<h.l.length
   · rw [← n.next]
     unfold nextOf
     rw [List.getLast?_drop,if_neg (by omega)]
   · have h0:h.l=[]:=List.length_eq_zero_iff.1 (by omega)
     have hn:=n.next
     rw [h0] at hn ⊢
     rw [← hn]
     simp
/-! ### the daemon -/
theorem NodeC.keep (n:NodeC d h s x Ls c k) (hk:k≤1000) (hc:120*(k+2)≤c) {a b:Int} (hb:0≤b∧b≤a) (ha:a≤(sureOf h.l s:Nat)) :
  ∃ d',keepC d x a b=(0,{ x with next:=a,gap:=b },d')∧RunC d' h s a b∧d'.fail=none∧d'.room=c∧total d'.files≤120*(k+1)∧d'.files.length≤k+1:=by
 obtain ⟨dr,f0,cu⟩:=n.node.run.file
 have hle:=n.le
 have hmn:=n.many
 have htot:=n.tot
 have hlen:=n.len
 have hroom:=n.room
 have g:=f0.ok.save_grw a b
 rcases save_out f0 n.node.off cu (a':=a) (b':=b) ⟨by omega,by omega,by omega,by omega⟩ (by omega) (by omega) with ⟨d1,dr1,e,k1,k2,k3⟩ | ⟨_,_,e⟩
 · unfold keepC
   rw [e] at g ⊢
   obtain ⟨g1,g2,g3⟩:=n.grw g
   exact ⟨d1,rfl,⟨⟨n.node.run.runs.1,k1.1.trans n.node.off,k1.2.1.trans n.node.run.runs.2.2⟩,dr1,k2,k3⟩,k1.2.2.2 n.fail,g1,g2,g3⟩
 · exact absurd n.fail e.1
theorem NodeC.skip (n:NodeC d h s x Ls c k) (hk:k≤1000) (hc:120*(k+2)≤c) (ho:x.out=noB) :
  ∃ d',skipC d h x=(0,{ x with next:=max x.next (firstOf h.l:Nat),gap:=x.gap+(max x.next (firstOf h.l:Nat)-x.next) },d')∧NodeC d' h s { x with next:=max x.next (firstOf h.l:Nat),gap:=x.gap+(max x.next (firstOf h.l:Nat)-x.next) } Ls c (k+1):=by
 obtain ⟨e1,_⟩:=n.node.first
 obtain ⟨g1,g2⟩:=n.node.gap
 have hle:=n.le
 unfold skipC
 rw [e1]
 by_cases hf:(firstOf h.l:Int)≤x.next
 · rw [if_pos hf,Int.max_eq_left hf]
   have e:x.gap+(x.next-x.next)=x.gap:=by omega
   rw [e]
   exact ⟨d,rfl,n.node,n.fail,n.room,Nat.le_trans n.tot (by omega),Nat.le_succ_of_le n.len,n.recs,n.next,Nat.le_succ_of_le n.many⟩
 · rw [if_neg hf,Int.max_eq_right (by omega)]
   obtain ⟨d1,k1,k2,k3,k4,k5,k6⟩:=n.keep hk hc (a:=(firstOf h.l:Nat)) (b:=x.gap+(firstOf h.l:Nat)-x.next) (by omega) (by omega)
   have e:x.gap+(((firstOf h.l:Nat):Int)-x.next)=x.gap+(firstOf h.l:Nat)-x.next:=by omega
   rw [k1,e]
   have hm:x.many=0:=by
    rcases n.node.out with ⟨_,e⟩ | ⟨ss,e,_⟩
    · exact e
    · rw [ho] at e;exact absurd e.symm (batchB_ne _ _ _)
   refine ⟨d1,rfl,⟨⟨k2,⟨?_,?_⟩,?_,n.node.host,.inl ⟨ho,hm⟩⟩,k3,k4,k5,k6,n.recs,n.next,Nat.le_succ_of_le n.many⟩⟩
   · show 0≤x.gap+(firstOf h.l:Nat)-x.next;omega
   · show x.gap+(firstOf h.l:Nat)-x.next≤(firstOf h.l:Nat);omega
   · show ((firstOf h.l:Nat):Int)≤_;omega
theorem NodeC.page (n:NodeC d h s x Ls c k) {m:Nat} (hm:firstOf h.l≤m):pageL h.l s m=(Ls.take (min (m+8) (sureOf h.l s))).drop m:=by
 have hle:=n.le
 unfold pageL
 rw [n.recs,← List.drop_take,List.drop_drop,show firstOf h.l+(m-firstOf h.l)=m by omega,List.take_drop,List.take_take]
structure Paged (Ls:List Sp.Span) (a:Nat) (su:Nat) (pg:List Sp.Span):Prop where
 is_:pg=(Ls.take (min (a+8) su)).drop a
 len:pg.length=min 8 (su-a)
 may:∀ y∈pg,Sp.May y
theorem NodeC.paged (n:NodeC d h s x Ls c k) {m:Nat} (hm:firstOf h.l≤m) (h2:m≤sureOf h.l s):Paged Ls m (sureOf h.l s) (pageL h.l s m):=by
 refine ⟨n.page hm,pageL_len n.node.run.chain hm h2,?_⟩
 obtain ⟨dr,f,_⟩:=n.node.run.file
 exact pageL_may f.sgs.may s m
theorem NodeC.step0 (n:NodeC d h s x Ls c k) (hk:k≤1000) (hc:120*(k+2)≤c) (ho:x.out=noB) (now:Int) (a:Nat) (ha:(a:Int)=max x.next (firstOf h.l:Nat)) :
  firstOf h.l≤a∧a≤sureOf h.l s∧∃ d' x',stepC now d h x=((x'.out,0),x',d')∧NodeC d' h s x' Ls c (k+1)∧x'.host=x.host∧x'.next=a∧x'.gap=x.gap+(a-x.next)∧x'.sent=now ∧
   ((sureOf h.l s≤a∧x'.out=noB∧x'.many=0)∨(a<sureOf h.l s∧x'.out=batchB x.host a (pageL h.l s a)∧x'.many=(pageL h.l s a).length∧Paged Ls a (sureOf h.l s) (pageL h.l s a))):=by
 have hsu:=n.node.sure
 have hle:=n.le
 have hfa:firstOf h.l≤a:=by omega
 have has:a≤sureOf h.l s:=by omega
 refine ⟨hfa,has,?_⟩
 obtain ⟨d1,k1,k2⟩:=n.skip hk hc ho
 have hm:x.many=0:=by
  rcases n.node.out with ⟨_,e⟩ | ⟨ss,e,_⟩
  · exact e
  · rw [ho] at e;exact absurd e.symm (batchB_ne _ _ _)
 rw [← ha] at k1 k2
 obtain ⟨x1,hx1⟩:∃ x1:Dm,x1={ x with next:=(a:Int),gap:=x.gap+(a-x.next) }:=⟨_,rfl⟩
 rw [← hx1] at k1 k2
 have f1:x1.next=a:=by rw [hx1]
 have f2:x1.host=x.host:=by rw [hx1]
 have f3:x1.out=noB:=by rw [hx1];exact ho
 have f4:x1.gap=x.gap+(a-x.next):=by rw [hx1]
 have f5:x1.many=0:=by rw [hx1];exact hm
 obtain ⟨b1,b2⟩:=k2.node.bat f3 (by rw [f1];omega)
 unfold stepC gatherC
 rw [if_neg (by rw [n.node.off];decide),if_neg (fun e => e ho),k1]
 simp only [ne_eq,not_true_eq_false,if_false]
 rw [f1,Int.toNat_natCast] at b1
 by_cases hs:(sureOf h.l s:Int)≤a
 · rw [if_pos hs] at b1
   rw [b1] at b2 ⊢
   simp only [not_true_eq_false,if_false]
   refine ⟨d1,{ x1 with sent:=now },rfl,⟨b2.sent now,k2.fail,k2.room,k2.tot,k2.len,k2.recs,k2.next,k2.many⟩,f2,f1,f4,rfl,.inl ⟨by omega,f3,f5⟩⟩
 · rw [if_neg hs] at b1
   rw [b1] at b2 ⊢
   simp only [not_true_eq_false,if_false]
   refine ⟨d1,_,rfl,⟨b2.sent now,k2.fail,k2.room,k2.tot,k2.len,k2.recs,k2.next,k2.many⟩,f2,rfl,f4,rfl,.inr ⟨by omega,by rw [f2],rfl,n.paged hfa has⟩⟩
theorem step_again (d:Dk) (h:Hl) (x:Dm) (now:Int) (hoff:d.off=false) (ho:x.out≠noB):stepC now d h x=if now-x.sent<3 then ((noB,0),x,d) else ((x.out,0),{ x with sent:=now },d):=by
 unfold stepC
 rw [if_neg (by rw [hoff];decide),if_pos ho]
theorem NodeC.sent (n:NodeC d h s x Ls c k) (now:Int):NodeC d h s { x with sent:=now } Ls c k:=⟨n.node.sent now,n.fail,n.room,n.tot,n.len,n.recs,n.next,n.many⟩
theorem NodeC.more (n:NodeC d h s x Ls c k):NodeC d h s x Ls c (k+1):=⟨n.node,n.fail,n.room,Nat.le_trans n.tot (by omega),Nat.le_succ_of_le n.len,n.recs,n.next,Nat.le_succ_of_le n.many⟩
theorem NodeC.take (n:NodeC d h s x Ls c k) (hk:k≤1000) (hc:120*(k+2)≤c) (b:Po.Str) :
  (Po.decAck b=none∧takeC b d x=((false,30),x,d)) ∨
  (Po.decAck b≠none∧¬ (x.out≠noB∧Po.decAck b=some (x.host,x.next,x.next+x.many))∧takeC b d x=((false,0),x,d)) ∨
  (x.out≠noB∧Po.decAck b=some (x.host,x.next,x.next+x.many)∧∃ d',takeC b d x=((true,0),{ x with next:=x.next+x.many,out:=noB,many:=0 },d')∧NodeC d' h s { x with next:=x.next+x.many,out:=noB,many:=0 } Ls c (k+1)):=by
 unfold takeC
 rw [if_neg (by rw [n.node.off];decide)]
 cases hd:Po.decAck b with
 | none => exact .inl ⟨rfl,rfl⟩
 | some q =>
  obtain ⟨ho,f,m⟩:=q
  simp only
  by_cases hg:x.out=noB∨ho≠x.host∨f≠x.next∨m≠x.next+x.many
  · rw [if_pos hg]
    refine .inr (.inl ⟨by simp,fun e => ?_,rfl⟩)
    obtain ⟨e0,e⟩:=e
    simp only [Option.some.injEq,Prod.mk.injEq] at e
    obtain ⟨e1,e2,e3⟩:=e
    rcases hg with hg | hg | hg | hg
    · exact e0 hg
    · exact hg e1
    · exact hg e2
    · exact hg e3
  · rw [if_neg hg]
    have h1:x.out≠noB:=fun e => hg (.inl e)
    have h2:ho=x.host:=Classical.byContradiction fun e => hg (.inr (.inl e))
    have h3:f=x.next:=Classical.byContradiction fun e => hg (.inr (.inr (.inl e)))
    have h4:m=x.next+x.many:=Classical.byContradiction fun e => hg (.inr (.inr (.inr e)))
    subst h2 h3 h4
    obtain ⟨g1,g2⟩:=n.node.gap
    have hsu:x.next+x.many≤(sureOf h.l s:Nat)∧1≤x.many:=by
     rcases n.node.out with ⟨o,_⟩ | ⟨ss,_,e2,e3,_,_,e6⟩
     · exact absurd o h1
     · omega
    obtain ⟨d1,k1,k2,k3,k4,k5,k6⟩:=n.keep hk hc (a:=x.next+x.many) (b:=x.gap) (by omega) hsu.1
    rw [k1]
    simp only [ne_eq,not_true_eq_false,if_false]
    refine .inr (.inr ⟨h1,trivial,d1,rfl,⟨⟨k2,⟨g1,?_⟩,?_,n.node.host,.inl ⟨rfl,rfl⟩⟩,k3,k4,k5,k6,n.recs,n.next,Nat.le_succ_of_le n.many⟩⟩)
    · show x.gap≤x.next+x.many;omega
    · show x.next+x.many≤_;exact hsu.1
end
end Go.Proofs.YtdacanghbepjpaaGreatDoor
namespace Go.Proofs.YtdacanghbepjpaaGreatDoor
set_option linter.unusedSimpArgs false
set_option linter.unusedVariables false
set_option maxRecDepth 100000
open Go.RowKit Go.Maps
open Dsk
def dmVs (bd j:Nat) (x:Dm):Array Value:=#[.pointer (some ⟨bd,0,none⟩),.pointer (some ⟨j,0,none⟩),.int .i64 x.host,.int .i64 x.next,.int .i64 x.gap,.string x.out,.int .i64 x.many,.int .i64 x.sent]
structure NS (w0:World) (X H:Nat→Prop) (W:World) (bd j jx:Nat) (d:Dk) (h:Hl) (x:Dm):Prop where
 hs:HS w0 X H W (.pointer (some ⟨bd,0,none⟩)) d j h
 blk:Blk W jx 37 (dmVs bd j x)
 inX:X jx
 out:¬ H jx
 new:w0.heap.size≤jx
def NK (X H:Nat→Prop) (jx:Nat) (w w':World):Prop:=Chg (fun k => ¬ X k∨H k∨k=jx) w w'
def NPost (w0:World) (X H:Nat→Prop) (w:World) (bd j jx:Nat) (d':Dk) (h':Hl) (x':Dm) (w':World):Prop :=
 ∃ X' H':Nat→Prop,(∀ k,X k→X' k)∧(∀ k,H' k→H k∨w.heap.size≤k)∧NS w0 X' H' w' bd j jx d' h' x'∧NK X H jx w w'
section
variable {w0 w w' w2:World} {X H X2 H2 S:Nat→Prop} {bd j jx:Nat} {d d' d2:Dk} {h h' h2:Hl} {x x' x2:Dm}
theorem NS.size (n:NS w0 X H w bd j jx d h x):w0.heap.size≤w.heap.size:=n.hs.live.size
theorem NS.base (n:NS w0 X H w bd j jx d h x):Below w0.heap.size w0 w:=n.hs.live.below
theorem NS.below (n:NS w0 X H w bd j jx d h x) (y:Below w.heap.size w w'):NS w0 X H w' bd j jx d h x:=⟨n.hs.below y,n.blk.below y,n.inX,n.out,n.new⟩
theorem NPost.same (n:NS w0 X H w bd j jx d h x) (y:Below w.heap.size w w'):NPost w0 X H w bd j jx d h x w':=⟨X,H,fun _ e => e,fun _ e => .inl e,n.below y,Chg.of_below y⟩
theorem NPost.live (p:NPost w0 X H w bd j jx d h x w'):w.heap.size≤w'.heap.size:=by obtain ⟨_,_,_,_,_,k⟩:=p;exact k.size
theorem Chg.thenOn {S T:Nat→Prop} {a b c:World} (h:Chg S a b) (k:Chg T b c) (hT:∀ i,i<a.heap.size→T i→S i):Chg S a c :=
 ⟨k.os.trans h.os,k.tape.trans h.tape,k.output.trans h.output,Nat.le_trans h.size k.size,fun i hi hs => (k.block i (Nat.lt_of_lt_of_le hi h.size) (fun e => hs (hT i hi e))).trans (h.block i hi hs)⟩
theorem NPost.after (hX:∀ k,X k→X2 k) (hH:∀ k,H2 k→H k∨w.heap.size≤k) {w1:World} (hk:NK X H jx w w1) (p:NPost w0 X2 H2 w1 bd j jx d' h' x' w'):NPost w0 X H w bd j jx d' h' x' w':=by
 obtain ⟨X3,H3,h1,h2,n3,k3⟩:=p
 refine ⟨X3,H3,fun k e => h1 k (hX k e),fun k e => ?_,n3,Chg.thenOn hk k3 fun k hlt e => ?_⟩
 · rcases h2 k e with e | e
   · exact hH k e
   · have:=hk.size;exact .inr (by omega)
 · rcases e with e | e | e
   · exact .inl fun e2 => e (hX k e2)
   · rcases hH k e with e | e
     · exact .inr (.inl e)
     · omega
   · exact .inr (.inr e)
theorem NPost.trans (p:NPost w0 X H w bd j jx d h x w2) (q:∀ X2 H2,NS w0 X2 H2 w2 bd j jx d h x→NPost w0 X2 H2 w2 bd j jx d' h' x' w'):NPost w0 X H w bd j jx d' h' x' w':=by
 obtain ⟨X2,H2,h1,h2,n2,k2⟩:=p
 exact NPost.after h1 h2 k2 (q X2 H2 n2)
theorem NS.log (n:NS w0 X H w bd j jx d h x) (p:HPost w0 X H w (.pointer (some ⟨bd,0,none⟩)) d' j h' w'):NPost w0 X H w bd j jx d' h' x w':=by
 obtain ⟨N,hN,hs,hK⟩:=p
 have hlt:=n.blk.lt
 refine ⟨_,_,fun _ e => .inl e,fun k e => e.elim .inl fun e => .inr (hN k e).1,⟨hs,n.blk.chg hK fun e => e.elim (fun e => e n.inX) n.out,.inl n.inX,fun e => e.elim n.out fun e => by have:=(hN _ e).1;omega,n.new⟩,Chg.mono hK fun k _ e => e.elim .inl fun e => .inr (.inl e)⟩
theorem NS.disk (n:NS w0 X H w bd j jx d h x) (hl:Live w0 X w' (.pointer (some ⟨bd,0,none⟩)) d') (hk:Keeps X w w'):NPost w0 X H w bd j jx d' h x w' :=
 ⟨X,H,fun _ e => e,fun _ e => .inl e,⟨n.hs.turn hl hk,n.blk.chg hk fun e => e n.inX,n.inX,n.out,n.new⟩,Chg.mono hk fun k _ e => .inl e⟩
theorem NS.store (n:NS w0 X H w bd j jx d h x) (hc:Chg (fun k => k=jx) w w') (hb:Blk w' jx 37 (dmVs bd j x')):NPost w0 X H w bd j jx d h x' w':=by
 obtain ⟨live,⟨lv,vs,hbl,hr,hi⟩,sub,new⟩:=n.hs
 have hl:=live.addChg hc fun b hb => by rw [hb];exact ⟨n.inX,n.new⟩
 exact ⟨_,H,fun _ e => .inl e,fun _ e => .inl e,⟨⟨hl,⟨lv,vs,hbl.chg hc fun e => n.out (e ▸ hi j (.inl rfl)),hr.chg hc fun b hb e => n.out (e ▸ hi b (.inr hb)),hi⟩,fun b hb => .inl (sub b hb),fun b hb => ⟨(new b hb).1,Nat.lt_of_lt_of_le (new b hb).2 hc.size⟩⟩,hb,.inl n.inX,n.out,n.new⟩,Chg.mono hc fun k _ e => .inr (.inr e)⟩
theorem NS.add (n:NS w0 X H w bd j jx d h x) (y:Below w.heap.size w w'):NS w0 (Also X w w') H w' bd j jx d h x:=by
 obtain ⟨live,⟨lv,vs,hbl,hr,hi⟩,sub,new⟩:=n.hs
 have hc:Chg (fun _ => False) w w':=Chg.of_below y
 exact ⟨⟨live.add y,⟨lv,vs,hbl.chg hc (fun e => e),hr.chg hc fun b hb e => e,hi⟩,fun b hb => .inl (sub b hb),fun b hb => ⟨(new b hb).1,Nat.lt_of_lt_of_le (new b hb).2 y.size⟩⟩,n.blk.below y,.inl n.inX,n.out,n.new⟩
end
end Go.Proofs.YtdacanghbepjpaaGreatDoor
namespace Go.Proofs.YtdacanghbepjpaaGreatDoor
set_option linter.unusedSimpArgs false
set_option linter.unusedVariables false
set_option maxRecDepth 100000
open Go.RowKit Go.Maps
open Dsk
section
variable {w0 w w' w2:World} {X H X2 H2 S:Nat→Prop} {bd j jx:Nat} {d d' d2:Dk} {h h' h2:Hl} {x x' x2:Dm}
theorem dm_none (h0:w.cell? ⟨jx,0,none⟩=some (.pointer (some ⟨bd,0,none⟩))):Calls Tryz.prog 70 #[.pointer (some ⟨jx,0,none⟩)] w fun e w' => e=.returned (.bool false)∧w=w':=by
 go_enter Tryz.func70,Tryz.ntmps70
 go_wp2_with fail
 go_ret
 exact ⟨rfl,rfl⟩
theorem NS.cells (n:NS w0 X H w bd j jx d h x):w.cell? ⟨jx,0,none⟩=some (.pointer (some ⟨bd,0,none⟩))∧w.cell? ⟨jx,1,none⟩=some (.pointer (some ⟨j,0,none⟩))∧w.cell? ⟨jx,2,none⟩=some (.int .i64 x.host)∧w.cell? ⟨jx,3,none⟩=some (.int .i64 x.next)∧w.cell? ⟨jx,4,none⟩=some (.int .i64 x.gap)∧w.cell? ⟨jx,5,none⟩=some (.string x.out)∧w.cell? ⟨jx,6,none⟩=some (.int .i64 x.many)∧w.cell? ⟨jx,7,none⟩=some (.int .i64 x.sent) :=
 ⟨n.blk.cell 0,n.blk.cell 1,n.blk.cell 2,n.blk.cell 3,n.blk.cell 4,n.blk.cell 5,n.blk.cell 6,n.blk.cell 7⟩
theorem NS.cursor (n:NS w0 X H w bd j jx d h x):Calls Tryz.prog 16 #[.pointer (some ⟨jx,0,none⟩)] w fun e w' => e=.returned (curV x.next x.gap)∧Below w.heap.size w w':=by
 obtain ⟨q,hq⟩:∃ q,q=w.heap.size:=⟨_,rfl⟩
 obtain ⟨w1,hw1⟩:∃ w1,w1=w.alloc (.cells #[.int .i64 0,.int .i64 0] 30 (0,0)):=⟨_,rfl⟩
 have hb1:Below w.heap.size w w1:=by rw [hw1];exact (Below.refl _ _).alloc (Nat.le_refl _) _
 have hk1:Blk w1 q 30 #[.int .i64 0,.int .i64 0]:=by rw [hw1,hq];exact Blk.alloc_new w _ _
 obtain ⟨c0,c1,c2,c3,c4,c5,c6,c7⟩:=(n.below hb1).cells
 have HN:=Lib.hid (dm_none c0)
 have k0:=hk1.cell 0
 have k1:=hk1.cell 1
 simp only [List.getElem?_toArray,List.getElem?_cons_zero,List.getElem?_cons_succ] at k0 k1
 have f0:=hk1.free 0
 have f1:=hk1.free 1
 have hk2:=(hk1.set 0 (.int .i64 x.next)).set 1 (.int .i64 x.gap)
 simp only [List.setIfInBounds_toArray,List.set_cons_zero,List.set_cons_succ] at hk2
 have HK2:=Lib.hid hk2
 have HB2:=Lib.hid ((hb1.setCell (p:=⟨q,0,none⟩) (by show w.heap.size≤q;omega) (.int .i64 x.next)).setCell (p:=⟨q,1,none⟩) (by show w.heap.size≤q;omega) (.int .i64 x.gap))
 have HW1:=Lib.hid hw1
 clear n hb1 hk1 hk2 hw1 c1 c2 c5 c6 c7
 go_enter Tryz.func16,Tryz.ntmps16
 go_wp2_with fail
 rw [← HW1.out,← hq]
 refine HN.out.mono ?_
 rintro e w2 ⟨rfl,rfl⟩
 clear HN hq
 go_wp2_with fail
 have r0:=HK2.out.cell 0
 have r1:=HK2.out.cell 1
 simp only [List.getElem?_toArray,List.getElem?_cons_zero,List.getElem?_cons_succ] at r0 r1
 refine bodyPost_ret (v:=.agg #[.int .i64 x.next,.int .i64 x.gap]) (by simp [results,Tryz.results16,go_sem,r0,r1]) rfl ?_
 exact ⟨rfl,HB2.out⟩
theorem NS.waiting (n:NS w0 X H w bd j jx d h x):Calls Tryz.prog 17 #[.pointer (some ⟨jx,0,none⟩)] w fun e w' => e=.returned (.bool (!x.out.toList.isEmpty))∧w=w':=by
 obtain ⟨c0,c1,c2,c3,c4,c5,c6,c7⟩:=n.cells
 have HN:=Lib.hid (dm_none c0)
 clear n c1 c2 c3 c4 c6 c7
 go_enter Tryz.func17,Tryz.ntmps17
 go_wp2_with fail
 refine HN.out.mono ?_
 rintro e w2 ⟨rfl,rfl⟩
 clear HN
 go_wp2_with fail
 go_ret
 exact ⟨rfl,rfl⟩
set_option maxHeartbeats 2000000 in
theorem NS.keep (n:NS w0 X H w bd j jx d h x) (a b:Int) (ha:-9223372036854775808≤a∧a≤9223372036854775807) (hb:-9223372036854775808≤b∧b≤9223372036854775807) :
  Calls Tryz.prog 72 #[.pointer (some ⟨jx,0,none⟩),curV a b] w fun e w' => e=.returned (.int .i64 (keepC d x a b).1)∧NPost w0 X H w bd j jx (keepC d x a b).2.2 h (keepC d x a b).2.1 w':=by
 unfold curV keepC
 obtain ⟨q,hq⟩:∃ q,q=w.heap.size:=⟨_,rfl⟩
 obtain ⟨w1,hw1⟩:∃ w1,w1=w.alloc (.cells #[.int .i64 a,.int .i64 b] 30 (0,0)):=⟨_,rfl⟩
 have hb1:Below w.heap.size w w1:=by rw [hw1];exact (Below.refl _ _).alloc (Nat.le_refl _) _
 have hk1:Blk w1 q 30 #[.int .i64 a,.int .i64 b]:=by rw [hw1,hq];exact Blk.alloc_new w _ _
 have hqx:Also X w w1 q:=.inr ⟨by omega,hk1.lt⟩
 obtain ⟨w2,hw2⟩:∃ w2,w2=w1.drew:=⟨_,rfl⟩
 have hb2:Below w1.heap.size w1 w2:=by rw [hw2];exact (Below.refl _ _).drew
 have n2:=(n.add hb1).below hb2
 have hk2:=hk1.below hb2
 have hne:q≠jx:=by have:=n.blk.lt;omega
 obtain ⟨c0,c1,c2,c3,c4,c5,c6,c7⟩:=n2.cells
 have k0:=hk2.cell 0
 have k1:=hk2.cell 1
 simp only [List.getElem?_toArray,List.getElem?_cons_zero,List.getElem?_cons_succ] at k0 k1
 have HSV:=Lib.hid (n2.hs.live.save a b ha hb)
 obtain ⟨R,hR⟩:∃ R,R=saveD d a b:=⟨_,rfl⟩
 rw [← hR] at HSV ⊢
 obtain ⟨r,d1⟩:=R
 simp only at HSV ⊢
 have HN2:=Lib.hid n2
 have HK2:=Lib.hid hk2
 have HX:=Lib.hid hqx
 have HNE:=Lib.hid hne
 have HKW:=Lib.hid (show NK X H jx w w2 from Chg.of_below (hb1.trans (hb2.mono hb1.size)))
 have HW1:=Lib.hid hw1
 clear n n2 hk1 hk2 hb1 hb2 hqx hne hR hw1 c1 c2 c3 c4 c5 c6 c7
 unfold curV at HSV
 go_enter Tryz.func72,Tryz.ntmps72
 go_wp2_with fail
 rw [← HW1.out,← hq]
 have hT:True:=trivial
 have hS:w2.cell? ⟨jx,0,none⟩=some (.pointer (some ⟨bd,0,none⟩))∧w2.cell? ⟨q,0,none⟩=some (.int .i64 a)∧w2.cell? ⟨q,1,none⟩=some (.int .i64 b):=⟨c0,k0,k1⟩
 refine wp_region_two (T:=fun _ => True) (S:=fun W => W.cell? ⟨jx,0,none⟩=some (.pointer (some ⟨bd,0,none⟩))∧W.cell? ⟨q,0,none⟩=some (.int .i64 a)∧W.cell? ⟨q,1,none⟩=some (.int .i64 b)) (n:=5) (by kernel_rfl) ?_
 rw [← hw2]
 clear hw2 hq c0 k0 k1
 refine tk 0 6 hT hS ?_
 refine tk 1 7 hT hS ?_
 try simp only [xq]
 refine tk 2 8 hT hS ?_
 try simp only [xq]
 refine two_take 3 (some 9) (v:=?_) rfl rfl (by kernel_rfl) (by kernel_rfl) (by kernel_rfl) (by kernel_rfl) (by decide) (by kernel_rfl) (fun _ _ _ h => h) (Or.inl ⟨by rfl,?hy3⟩) hT hS ?_
 case hy3 => (intro w' hS';(try unfold S8 at hS');(try unfold T8 at hS');go_simp;(try with_reducible rfl))
 try simp only [xq]
 refine two_take 4 (some 10) (v:=?_) rfl rfl (by kernel_rfl) (by kernel_rfl) (by kernel_rfl) (by kernel_rfl) (by decide) (by kernel_rfl) (fun _ _ _ h => h) (Or.inl ⟨by rfl,?hy4⟩) hT hS ?_
 case hy4 => (intro w' hS';(try unfold S8 at hS');(try unfold T8 at hS');go_simp;(try with_reducible rfl))
 try simp only [xq]
 refine two_one 5 rfl (by kernel_rfl) ?_
 intro K hK
 go_simp
 refine HSV.out.mono ?_
 rintro e w3 ⟨rfl,hl3,hkp3⟩
 have HP3:=Lib.hid (HN2.out.disk hl3 hkp3)
 have HN3:=Lib.hid (show NS w0 (Also X w w1) H w3 bd j jx d1 h x from ⟨HN2.out.hs.turn hl3 hkp3,HN2.out.blk.chg hkp3 fun e => e HN2.out.inX,HN2.out.inX,HN2.out.out,HN2.out.new⟩)
 have HK3:=Lib.hid (show Blk w3 q 30 #[.int .i64 a,.int .i64 b] from HK2.out.chg hkp3 fun e => e HX.out)
 have HKW3:=Lib.hid (show NK X H jx w w3 from Chg.thenOn HKW.out hkp3 fun k hk e => .inl fun e2 => e (.inl e2))
 refine hK.out _ _ trivial (fun _ e => absurd rfl e) ?_
 clear hK K hT hS hl3 hkp3
 have hT:True:=trivial
 try simp only [xq]
 refine two_one 6 rfl (by kernel_rfl) ?_
 intro K hK
 go_simp
 refine hK.out _ _ hT (fun e _ => by exact absurd e (by decide)) ?_
 clear hK K hT
 try simp only [xq]
 refine two_done (by kernel_rfl) ?_ _
 by_cases hr:r=0
 · subst hr
   obtain ⟨c0,c1,c2,c3,c4,c5,c6,c7⟩:=HN3.out.cells
   have k0:=HK3.out.cell 0
   have k1:=HK3.out.cell 1
   simp only [List.getElem?_toArray,List.getElem?_cons_zero,List.getElem?_cons_succ] at k0 k1
   have f3:=HN3.out.blk.free 3
   have f4:=HN3.out.blk.free 4
   have hb5:=(HN3.out.blk.set 3 (.int .i64 a)).set 4 (.int .i64 b)
   unfold dmVs at hb5
   simp only [List.setIfInBounds_toArray,List.set_cons_zero,List.set_cons_succ] at hb5
   have hc5:Chg (fun k => k=jx) w3 ((w3.setCell ⟨jx,3,none⟩ (.int .i64 a)).setCell ⟨jx,4,none⟩ (.int .i64 b)):=((Chg.refl (fun k => k=jx) w3).setCell (p:=⟨jx,_,none⟩) (fun _ => rfl) _).setCell (p:=⟨jx,_,none⟩) (fun _ => rfl) _
   have HP5:=Lib.hid (HN3.out.store (x':={ x with next:=a,gap:=b }) hc5 hb5)
   clear hb5 hc5 c1 c2 c5 c6 c7
   go_wp2_with fail
   go_ret
   refine ⟨rfl,?_⟩
   exact NPost.after (fun k e => .inl e) (fun k e => .inl e) HKW3.out HP5.out
 · have hrb:(r == 0)=false:=by rw [beq_eq_false_iff_ne];exact hr
   go_wp2_with fail
   go_ret
   refine ⟨rfl,?_⟩
   exact ⟨_,H,(fun k e => .inl e),(fun k e => .inl e),HN3.out,HKW3.out⟩
end
end Go.Proofs.YtdacanghbepjpaaGreatDoor
namespace Go.Proofs.YtdacanghbepjpaaGreatDoor
set_option linter.unusedSimpArgs false
set_option linter.unusedVariables false
set_option maxRecDepth 100000
open Go.RowKit Go.Maps
open Dsk
section
variable {w0 w w' w2:World} {X H X2 H2 S:Nat→Prop} {bd j jx:Nat} {d d' d2:Dk} {h h' h2:Hl} {x x' x2:Dm}
structure DmB (x:Dm):Prop where
 gap:0≤x.gap∧x.gap≤2147483647
 next:0≤x.next∧x.next≤2147483647
set_option maxHeartbeats 4000000 in
theorem NS.skip (n:NS w0 X H w bd j jx d h x) (hm:h.l.length≤1000000) (hF:firstA d h≤1000000000) (hx:DmB x) :
  Calls Tryz.prog 122 #[.pointer (some ⟨jx,0,none⟩)] w fun e w' => e=.returned (.int .i64 (skipC d h x).1)∧NPost w0 X H w bd j jx (skipC d h x).2.2 h (skipC d h x).2.1 w':=by
 obtain ⟨⟨g1,g2⟩,⟨g3,g4⟩⟩:=hx
 have HFI:=Lib.hid (hfirst_any n.hs hm)
 obtain ⟨F,hFe⟩:∃ F,F=firstA d h:=⟨_,rfl⟩
 have hFe2:(if h.runs d then firstOf h.l else 0)=F:=hFe.symm
 rw [hFe2] at HFI
 have hsk:skipC d h x=if (F:Int)≤x.next then (0,x,d) else keepC d x F (x.gap+F-x.next):=by unfold skipC;rw [← hFe]
 rw [← hFe] at hF
 obtain ⟨R,hR⟩:∃ R,R=skipC d h x:=⟨_,rfl⟩
 rw [← hR]
 rw [hsk] at hR
 have HR:=Lib.hid hR
 have HK:=Lib.hid (fun (W:World) (hW:Below w.heap.size w W) => (n.below hW).keep F (x.gap+F-x.next) (by omega) (by omega))
 have HC:=Lib.hid (fun (W:World) (hW:Below w.heap.size w W) => (n.below hW).cells)
 have HN:=Lib.hid n
 obtain ⟨c0,c1,c2,c3,c4,c5,c6,c7⟩:=n.cells
 clear n hFe hFe2 hsk hR
 obtain ⟨ho,nx,gp,ou,ma,se⟩:=x
 simp only at *
 go_enter Tryz.func122,Tryz.ntmps122
 go_wp2_with fail
 refine HFI.out.mono ?_
 rintro e w1 ⟨rfl,hb1⟩
 have HB1:=Lib.hid hb1
 clear c0 c1 c2 c3 c4 c5 c6 c7 HFI
 obtain ⟨c0,c1,c2,c3,c4,c5,c6,c7⟩:=HC.out w1 hb1
 clear hb1
 by_cases hle:(F:Int)≤nx
 · have hr:=HR.out
   rw [if_pos hle] at hr
   subst hr
   go_wp2_with fail
   go_ret
   exact ⟨rfl,NPost.same HN.out HB1.out⟩
 · have hr:=HR.out
   rw [if_neg hle] at hr
   clear HR
   have hle2:nx<(F:Int):=by omega
   obtain ⟨w2,hw2⟩:∃ w2,w2=w1.drew:=⟨_,rfl⟩
   have hb2:Below w.heap.size w w2:=by rw [hw2];exact HB1.out.drew
   have hc:=HC.out w2 hb2
   have hke:=HK.out w2 hb2
   rw [← hr] at hke
   have HKE:=Lib.hid hke
   clear hke hr
   obtain ⟨r,x9,d9⟩:=R
   simp only at HKE ⊢
   unfold curV at HKE
   have HB2:=Lib.hid hb2
   clear hb2 HK HC
   go_wp2_with fail
   have hT:True:=trivial
   have hS:w2.cell? ⟨jx,3,none⟩=some (.int .i64 nx)∧w2.cell? ⟨jx,4,none⟩=some (.int .i64 gp):=⟨hc.2.2.2.1,hc.2.2.2.2.1⟩
   refine wp_region_two (T:=fun _ => True) (S:=fun _ => True) (n:=16) (by kernel_rfl) ?_
   rw [← hw2]
   clear hw2 c0 c1 c2 c3 c4 c5 c6 c7 hc
   have a1:wrap64 (gp+(F:Int))=gp+(F:Int):=IntWalk.wrap64_in _ (by omega)
   have a2:wrap64 (gp+(F:Int)-nx)=gp+(F:Int)-nx:=IntWalk.wrap64_in _ (by omega)
   have b1:IntKind.i64.wrap (gp+(F:Int))=gp+(F:Int):=(IntWalk.i64_left _).trans a1
   have b2:IntKind.i64.wrap (gp+(F:Int)-nx)=gp+(F:Int)-nx:=(IntWalk.i64_left _).trans a2
   obtain ⟨s3,s4⟩:=hS
   have hS:True:=trivial
   refine tk 0 16 hT hS ?_
   refine tk 1 17 hT hS ?_
   try simp only [xq]
   refine tk 2 18 hT hS ?_
   refine tk 3 19 hT hS ?_
   try simp only [xq]
   refine tk 4 20 hT hS ?_
   refine tk 5 21 hT hS ?_
   try simp only [xq]
   refine tk 7 23 hT hS ?_
   refine tk 9 25 hT hS ?_
   try simp only [xq]
   refine tk 10 26 hT hS ?_
   refine tk 11 27 hT hS ?_
   try simp only [xq]
   refine tk 12 28 hT hS ?_
   try simp only [xq]
   refine two_two 6 13 rfl rfl (by kernel_rfl) ?_ ?_
   · skip
     intro K hK
     go_simp
     refine hK.out _ _ hT (fun _ _ => hS) ?_
     clear hK K
     try simp only [xq]
     refine tk 8 24 hT hS ?_
     try simp only [xq]
     refine two_one 13 rfl (by kernel_rfl) ?_
     intro K hK
     go_simp
     refine hK.out _ _ hT (fun _ _ => hS) ?_
     clear hK K
     try simp only [xq]
     refine tk 14 30 hT hS ?_
     refine tk 15 31 hT hS ?_
     try simp only [xq]
     refine two_one 16 rfl (by kernel_rfl) ?_
     intro K hK
     go_simp
     refine HKE.out.mono ?_
     rintro e w3 ⟨rfl,hp3⟩
     have HP3:=Lib.hid hp3
     refine hK.out _ _ trivial (fun _ e => absurd rfl e) ?_
     clear hK K hp3
     try simp only [xq]
     refine two_one 17 rfl (by kernel_rfl) ?_
     intro K hK
     go_simp
     refine hK.out _ _ hT (fun e _ => by exact absurd e (by decide)) ?_
     clear hK K
     try simp only [xq]
     refine two_done (by kernel_rfl) ?_ _
     go_wp2_with fail
     go_ret
     refine ⟨rfl,?_⟩
     exact NPost.after (fun k e => e) (fun k e => .inl e) (Chg.of_below HB2.out) HP3.out
   · skip
     intro K hK
     go_simp
     refine hK.out _ _ hT (fun _ _ => hS) ?_
     clear hK K
     try simp only [xq]
     refine two_one 6 rfl (by kernel_rfl) ?_
     intro K hK
     go_simp
     refine hK.out _ _ hT (fun _ _ => hS) ?_
     clear hK K
     try simp only [xq]
     refine tk 8 24 hT hS ?_
     refine tk 14 30 hT hS ?_
     try simp only [xq]
     refine tk 15 31 hT hS ?_
     try simp only [xq]
     refine two_one 16 rfl (by kernel_rfl) ?_
     intro K hK
     go_simp
     refine HKE.out.mono ?_
     rintro e w3 ⟨rfl,hp3⟩
     have HP3:=Lib.hid hp3
     refine hK.out _ _ trivial (fun _ e => absurd rfl e) ?_
     clear hK K hp3
     try simp only [xq]
     refine two_one 17 rfl (by kernel_rfl) ?_
     intro K hK
     go_simp
     refine hK.out _ _ hT (fun e _ => by exact absurd e (by decide)) ?_
     clear hK K
     try simp only [xq]
     refine two_done (by kernel_rfl) ?_ _
     go_wp2_with fail
     go_ret
     refine ⟨rfl,?_⟩
     exact NPost.after (fun k e => e) (fun k e => .inl e) (Chg.of_below HB2.out) HP3.out
end
end Go.Proofs.YtdacanghbepjpaaGreatDoor
namespace Go.Proofs.YtdacanghbepjpaaGreatDoor
set_option linter.unusedSimpArgs false
set_option linter.unusedVariables false
set_option maxRecDepth 100000
open Go.RowKit Go.Maps
open Dsk
section
variable {w0 w w' w2:World} {X H X2 H2 S:Nat→Prop} {bd j jx:Nat} {d d' d2:Dk} {h h' h2:Hl} {x x' x2:Dm}
structure LogB (d:Dk) (h:Hl):Prop where
 bnd:SgsBnd h.l
 num:(numbered h.l).length≤1000000
 sure:sureL d h.l 0≤1000000000
 many:h.l.length≤1000000
 first:firstA d h≤1000000000
structure BatOk (d:Dk) (h:Hl) (x:Dm):Prop where
 log:LogB d h
 dm:DmB x
 good:¬ (sureA d h:Int)≤x.next→(readP d h x.next 8).2.2=0→(readP d h x.next 8).1≠[]→Po.HostOk x.host∧Po.RecOk x.next∧Po.RecOk (x.next+(readP d h x.next 8).1.length)∧(readP d h x.next 8).1.length≤8∧(∀ y∈(readP d h x.next 8).1,Sp.May y)∧0≤(readP d h x.next 8).2.1∧(readP d h x.next 8).2.1≤2147483647
set_option maxHeartbeats 4000000 in
theorem NS.gather (n:NS w0 X H w bd j jx d h x) (he:LEnv w0) (hm:h.l.length≤1000000) (hF:firstA d h≤1000000000) (hx:DmB x) (hb:(skipC d h x).1=0→BatOk (skipC d h x).2.2 h (skipC d h x).2.1) :
  Calls Tryz.prog 71 #[.pointer (some ⟨jx,0,none⟩)] w fun e w' => e=.returned (.int .i64 (gatherC d h x).1)∧NPost w0 X H w bd j jx (gatherC d h x).2.2 h (gatherC d h x).2.1 w':=by
 have HSK:=Lib.hid (n.skip hm hF hx)
 have HE:=Lib.hid he
 obtain ⟨R,hR⟩:∃ R,R=gatherC d h x:=⟨_,rfl⟩
 rw [← hR]
 obtain ⟨K0,hK0⟩:∃ K0,K0=skipC d h x:=⟨_,rfl⟩
 unfold gatherC at hR
 rw [← hK0] at HSK hb hR
 obtain ⟨r,x1,d1⟩:=K0
 simp only at HSK hb hR
 have HR:=Lib.hid hR
 have HBO:=Lib.hid hb
 clear hR hb hK0 n he hm hF hx
 go_enter Tryz.func71,Tryz.ntmps71
 go_wp2_with fail
 refine HSK.out.mono ?_
 rintro e w1 ⟨rfl,hp1⟩
 have HP1:=Lib.hid hp1
 clear hp1 HSK
 by_cases hr:r=0
 case neg =>
  have hrb:(r == 0)=false:=by rw [beq_eq_false_iff_ne];exact hr
  have hre:=HR.out
  rw [if_pos hr] at hre
  subst hre
  clear HR HBO
  go_wp2_with fail
  go_ret
  exact ⟨rfl,HP1.out⟩
 case pos =>
 subst hr
 have hre:=HR.out
 rw [if_neg (fun e => e rfl)] at hre
 have HB0:=HBO.out rfl
 clear HR HBO
 obtain ⟨X1,H1,hX1,hH1,n1,hk1⟩:=HP1.out
 have HPX:=Lib.hid (fun (x':Dm) (d':Dk) (W:World) (p:NPost w0 X1 H1 w1 bd j jx d' h x' W) => NPost.after hX1 hH1 hk1 p)
 clear HP1 hX1 hH1 hk1
 obtain ⟨sur,hsur⟩:∃ s,s=sureA d1 h:=⟨_,rfl⟩
 have HSU:=Lib.hid (fun (W:World) (hW:Below w1.heap.size w1 W) => hsure_any (n1.hs.below hW) ((HE.out.below n1.base).below hW) HB0.log.bnd)
 have hs2:(if h.runs d1 then sureL d1 h.l 0 else 0)=sur:=hsur.symm
 rw [hs2] at HSU
 have hs63:sur≤1000000000:=by rw [hsur];unfold sureA;split;exact HB0.log.sure;omega
 obtain ⟨P,hP⟩:∃ P,P=readP d1 h x1.next 8:=⟨_,rfl⟩
 have HRDX:=Lib.hid (fun (W:World) (hW:Below w1.heap.size w1 W) => hread_any (n1.hs.below hW) ((HE.out.below n1.base).below hW) HB0.log.bnd x1.next 8 HB0.log.num HB0.log.sure)
 unfold ReadPost at HRDX
 rw [← hP] at HRDX
 have hbat:R=if (sur:Int)≤x1.next then (0,x1,d1) else if P.2.2≠0∨P.1=[] then (P.2.2,x1,d1) else (0,{ x1 with out:=batchB x1.host x1.next P.1,many:=P.2.1-x1.next },d1):=by
  rw [hre];unfold batC;rw [← hsur,← hP]
 have hgood:=HB0.good
 rw [← hsur,← hP] at hgood
 obtain ⟨⟨g1,g2⟩,⟨g3,g4⟩⟩:=HB0.dm
 have HC:=Lib.hid (fun (W:World) (hW:Below w1.heap.size w1 W) => (n1.below hW).cells)
 have HN1:=Lib.hid n1
 have HBAT:=Lib.hid hbat
 have HGOOD:=Lib.hid hgood
 clear hs2 hsur hP hbat hgood n1 HB0 hre
 obtain ⟨ho,nx,gp,ou,ma,se⟩:=x1
 simp only at *
 obtain ⟨y1,hy1⟩:∃ y,y=w1.drew:=⟨_,rfl⟩
 have hb1:Below w1.heap.size w1 y1:=by rw [hy1];exact (Below.refl _ _).drew
 have HB1:=Lib.hid hb1
 have HTT:=Lib.hid (fun (W:World) (hW:Below w1.heap.size w1 W) => show W.cell? ⟨jx,1,none⟩=some (.pointer (some ⟨j,0,none⟩))∧W.cell? ⟨jx,2,none⟩=some (.int .i64 ho)∧W.cell? ⟨jx,3,none⟩=some (.int .i64 nx) from ⟨(HC.out W hW).2.1,(HC.out W hW).2.2.1,(HC.out W hW).2.2.2.1⟩)
 have hT:=HTT.out y1 hb1
 have hS:True:=trivial
 clear hb1
 go_wp2_with fail
 refine wp_region_two (T:=fun W => W.cell? ⟨jx,1,none⟩=some (.pointer (some ⟨j,0,none⟩))∧W.cell? ⟨jx,2,none⟩=some (.int .i64 ho)∧W.cell? ⟨jx,3,none⟩=some (.int .i64 nx)) (S:=fun _ => True) (n:=99) (by kernel_rfl) ?_
 rw [← hy1]
 clear hy1
 refine tk 0 12 hT hS ?_
 refine tk 1 13 hT hS ?_
 try simp only [xq]
 refine tk 2 14 hT hS ?_
 refine tk 3 15 hT hS ?_
 try simp only [xq]
 refine tk 4 16 hT hS ?_
 refine tk 5 17 hT hS ?_
 try simp only [xq]
 refine tk 6 18 hT hS ?_
 refine tk 7 19 hT hS ?_
 try simp only [xq]
 refine tk 8 20 hT hS ?_
 try simp only [xq]
 refine two_one 9 rfl (by kernel_rfl) ?_
 intro K hK
 go_simp
 refine (HSU.out y1 HB1.out).mono ?_
 rintro e y2 ⟨rfl,hb2⟩
 have HB2:=Lib.hid (HB1.out.trans (hb2.mono HB1.out.size))
 have hT1:=HTT.out y2 HB2.out
 refine hK.out _ _ hT1 (fun _ _ => hS) ?_
 clear hK K hb2 HSU hT
 have hT:=hT1
 clear hT1
 try simp only [xq]
 refine tk 10 22 hT hS ?_
 try simp only [xq]
 refine two_done (by kernel_rfl) ?_ _
 by_cases hle:(sur:Int)≤nx
 case pos =>
  have hre:=HBAT.out
  rw [if_pos hle] at hre
  subst hre
  clear HBAT HGOOD hT
  go_wp2_with fail
  go_ret
  exact ⟨rfl,HPX.out _ _ _ (NPost.same HN1.out HB2.out)⟩
 case neg =>
 have hlt:nx<(sur:Int):=by omega
 have hbat:=HBAT.out
 rw [if_neg hle] at hbat
 have HBAT2:=Lib.hid hbat
 have HG2:=Lib.hid (HGOOD.out (by first | exact hle | exact hlt))
 clear HBAT HGOOD hbat hle
 obtain ⟨y3,hy3⟩:∃ y,y=y2.drew:=⟨_,rfl⟩
 have hb3:Below w1.heap.size w1 y3:=by rw [hy3];exact HB2.out.drew
 have HB3:=Lib.hid hb3
 have hT1:=HTT.out y3 hb3
 clear hb3 hT
 have hT:=hT1
 clear hT1
 go_wp2_with fail
 refine wp_region_two (T:=fun W => W.cell? ⟨jx,1,none⟩=some (.pointer (some ⟨j,0,none⟩))∧W.cell? ⟨jx,2,none⟩=some (.int .i64 ho)∧W.cell? ⟨jx,3,none⟩=some (.int .i64 nx)) (S:=fun _ => True) (n:=99) (by kernel_rfl) ?_
 rw [← hy3]
 clear hy3
 refine tk 0 24 hT hS ?_
 refine tk 1 25 hT hS ?_
 try simp only [xq]
 refine tk 2 26 hT hS ?_
 refine tk 3 27 hT hS ?_
 try simp only [xq]
 refine tk 4 28 hT hS ?_
 refine tk 5 29 hT hS ?_
 try simp only [xq]
 refine tk 6 30 hT hS ?_
 refine tk 7 31 hT hS ?_
 try simp only [xq]
 refine tk 8 32 hT hS ?_
 try simp only [xq]
 refine two_one 9 rfl (by kernel_rfl) ?_
 intro K hK
 go_simp
 refine (HRDX.out y3 HB3.out).mono ?_
 rintro e y4 ⟨u,rfl,hsp,hb4⟩
 have HB4:=Lib.hid (HB3.out.trans (hb4.mono HB3.out.size))
 have HSP:=Lib.hid hsp
 obtain ⟨ux,uc,hu⟩:=OwnRow.shape hsp
 subst hu
 have hT1:=HTT.out y4 HB4.out
 refine hK.out _ _ hT1 (fun _ _ => hS) ?_
 clear hK K hb4 HRDX hT hsp
 have hT:=hT1
 clear hT1
 obtain ⟨ss,nn,rr⟩:=P
 simp only at *
 try simp only [xq]
 refine tk 10 23 hT hS ?_
 refine tk 11 34 hT hS ?_
 try simp only [xq]
 refine tk 12 35 hT hS ?_
 refine tk 13 36 hT hS ?_
 try simp only [xq]
 refine tk 14 4 hT hS ?_
 refine tk 15 5 hT hS ?_
 try simp only [xq]
 refine tk 16 6 hT hS ?_
 try simp only [xq]
 refine two_done (by kernel_rfl) ?_ _
 by_cases hrr:rr=0
 case neg =>
  have hrb:(rr == 0)=false:=by rw [beq_eq_false_iff_ne];exact hrr
  have hre:=HBAT2.out
  rw [if_pos (.inl hrr)] at hre
  subst hre
  clear HBAT2 HG2 hT
  go_wp2_with fail
  go_ret
  exact ⟨rfl,HPX.out _ _ _ (NPost.same HN1.out HB4.out)⟩
 case pos =>
 subst hrr
 by_cases hss:ss=[]
 case pos =>
  subst hss
  have hre:=HBAT2.out
  rw [if_pos (.inr rfl)] at hre
  subst hre
  clear HBAT2 HG2 hT HSP
  go_wp2_with fail
  go_ret
  exact ⟨rfl,HPX.out _ _ _ (NPost.same HN1.out HB4.out)⟩
 case neg =>
 have hre:=HBAT2.out
 rw [if_neg (by rintro (e | e);exact e rfl;exact hss e)] at hre
 subst hre
 obtain ⟨q1,q2,q3,q4,q5,q6,q7⟩:=HG2.out rfl hss
 obtain ⟨m,hm⟩:∃ m,m=ss.length:=⟨_,rfl⟩
 have hm0:m≠0:=fun e => hss (List.length_eq_zero_iff.1 (hm ▸ e))
 have hmz:((m:Int) == 0)=false:=by rw [beq_eq_false_iff_ne];omega
 obtain ⟨y5,hy5⟩:∃ y,y=y4.drew:=⟨_,rfl⟩
 have hb5:Below w1.heap.size w1 y5:=by rw [hy5];exact HB4.out.drew
 have hrd:RdSp y4 (.slice ux ss.length uc) ss:=OwnRow.rd spRow_len HSP.out
 have hrd5:RdSp y5 (.slice ux ss.length uc) ss:=hrd.below (by rw [hy5];exact (Below.refl _ _).drew)
 have HENC:=Lib.hid (encBatch_ok ho nx ss (.slice ux ss.length uc) y5 hrd5 q1 q2 q3 ⟨by omega,q4⟩ q5)
 rw [← hm] at HENC ⊢
 have HB5:=Lib.hid hb5
 have HQ:=Lib.hid (show 0≤nn∧nn≤2147483647 from ⟨q6,q7⟩)
 have hT1:=HTT.out y5 hb5
 clear hb5 hT hrd hrd5 q1 q2 q3 q4 q5 q6 q7 hm HSP HBAT2 HG2 hss
 have hT:=hT1
 clear hT1
 go_wp2_with fail
 refine wp_region_two (T:=fun W => W.cell? ⟨jx,1,none⟩=some (.pointer (some ⟨j,0,none⟩))∧W.cell? ⟨jx,2,none⟩=some (.int .i64 ho)∧W.cell? ⟨jx,3,none⟩=some (.int .i64 nx)) (S:=fun _ => True) (n:=99) (by kernel_rfl) ?_
 rw [← hy5]
 clear hy5
 refine tk 0 46 hT hS ?_
 refine tk 1 47 hT hS ?_
 try simp only [xq]
 refine tk 2 48 hT hS ?_
 refine tk 3 49 hT hS ?_
 try simp only [xq]
 refine tk 4 50 hT hS ?_
 refine tk 5 51 hT hS ?_
 try simp only [xq]
 refine tk 6 52 hT hS ?_
 refine tk 7 53 hT hS ?_
 try simp only [xq]
 refine tk 8 54 hT hS ?_
 refine tk 9 55 hT hS ?_
 try simp only [xq]
 refine tk 10 56 hT hS ?_
 refine tk 11 57 hT hS ?_
 try simp only [xq]
 refine two_one 12 rfl (by kernel_rfl) ?_
 intro K hK
 go_simp
 refine HENC.out.mono ?_
 rintro e y6 ⟨rfl,hb6⟩
 have HB6:=Lib.hid (HB5.out.trans (hb6.mono HB5.out.size))
 have hT1:=HTT.out y6 HB6.out
 refine hK.out _ _ hT1 (fun _ _ => hS) ?_
 clear hK K hb6 HENC hT
 have hT:=hT1
 clear hT1
 try simp only [xq]
 obtain ⟨BT,hBT⟩:∃ BT,BT=batchB ho nx ss:=⟨_,rfl⟩
 rw [← hBT]
 have HBT:=Lib.hid hBT
 clear hBT
 refine tk 13 45 hT hS ?_
 refine tk 14 59 hT hS ?_
 try simp only [xq]
 refine tk 15 60 hT hS ?_
 refine tk 16 61 hT hS ?_
 try simp only [xq]
 refine tk 17 62 hT hS ?_
 refine tk 18 63 hT hS ?_
 try simp only [xq]
 obtain ⟨c0,c1,c2,c3,c4,c5,c6,c7⟩:=HC.out y6 HB6.out
 have n6:=HN1.out.below HB6.out
 have f5:=n6.blk.free 5
 have f6:=n6.blk.free 6
 have hbk:=n6.blk.set 5 (.string BT)
 have hc7:Chg (fun k => k=jx) y6 (y6.setCell ⟨jx,5,none⟩ (.string BT)):=(Chg.refl (fun k => k=jx) y6).setCell (p:=⟨jx,_,none⟩) (fun _ => rfl) _
 have hbk8:=hbk.set 6 (.int .i64 (nn-nx))
 have hc8:Chg (fun k => k=jx) y6 ((y6.setCell ⟨jx,5,none⟩ (.string BT)).setCell ⟨jx,6,none⟩ (.int .i64 (nn-nx))):=hc7.setCell (p:=⟨jx,_,none⟩) (fun _ => rfl) _
 unfold dmVs at hbk hbk8
 simp only [List.setIfInBounds_toArray,List.set_cons_zero,List.set_cons_succ] at hbk hbk8
 have HP8:=Lib.hid (NPost.after (fun k e => e) (fun k e => .inl e) (Chg.of_below HB6.out) ((HN1.out.below HB6.out).store (x':=⟨ho,nx,gp,BT,nn-nx,se⟩) hc8 hbk8))
 have HTS:=Lib.hid (show (y6.setCell ⟨jx,5,none⟩ (.string BT)).cell? ⟨jx,1,none⟩=some (.pointer (some ⟨j,0,none⟩))∧(y6.setCell ⟨jx,5,none⟩ (.string BT)).cell? ⟨jx,2,none⟩=some (.int .i64 ho)∧(y6.setCell ⟨jx,5,none⟩ (.string BT)).cell? ⟨jx,3,none⟩=some (.int .i64 nx) from ⟨hbk.cell 1,hbk.cell 2,hbk.cell 3⟩)
 have HZ6:=Lib.hid (show (y6.setCell ⟨jx,5,none⟩ (.string BT)).cell? ⟨jx,6,none⟩=some (.int .i64 ma)∧(y6.setCell ⟨jx,5,none⟩ (.string BT)).frozen? ⟨jx,6,none⟩=false from ⟨hbk.cell 6,hbk.free 6⟩)
 clear n6 hbk hc7 hbk8 hc8 c0 c1 c2 c3 c4 c6 c7 f6
 refine two_one 19 rfl (by kernel_rfl) ?_
 intro K hK
 go_simp
 refine hK.out _ _ HTS.out (fun _ _ => hS) ?_
 clear hK K hT c5 f5
 have hT:=HTS.out
 try simp only [xq]
 obtain ⟨z1,hz1⟩:∃ z,z=y6.setCell ⟨jx,5,none⟩ (.string BT):=⟨_,rfl⟩
 rw [← hz1] at hT HP8 HZ6 ⊢
 clear hz1 HTS
 refine two_one 20 rfl (by kernel_rfl) ?_
 intro K hK
 go_simp
 refine hK.out _ _ hT (fun e _ => by exact absurd e (by decide)) ?_
 clear hK K
 try simp only [xq]
 refine two_done (by kernel_rfl) ?_ _
 obtain ⟨_,_,c3⟩:=hT
 obtain ⟨c6,f6⟩:=HZ6.out
 obtain ⟨r1,r2⟩:=HQ.out
 clear HZ6 HQ
 go_wp2_with fail
 go_ret
 refine ⟨rfl,?_⟩
 have:=HP8.out
 rw [HBT.out] at this
 exact HPX.out _ _ _ this
end
end Go.Proofs.YtdacanghbepjpaaGreatDoor
namespace Go.Proofs.YtdacanghbepjpaaGreatDoor
set_option linter.unusedSimpArgs false
set_option linter.unusedVariables false
set_option maxRecDepth 100000
open Go.RowKit Go.Maps
open Go.WideShapes (bytes_inj)
open Dsk
section
variable {w0 w w' w2:World} {X H X2 H2 S:Nat→Prop} {bd j jx:Nat} {d d' d2:Dk} {h h' h2:Hl} {x x' x2:Dm}
structure NowB (now sent:Int):Prop where
 now:-4611686018427387904≤now∧now≤4611686018427387903
 sent:-4611686018427387904≤sent∧sent≤4611686018427387903
theorem noB_of {b:ByteArray} (h:b.toList.isEmpty=true):b=noB:=by
 have h1:b.toList=[]:=List.isEmpty_iff.1 h
 rw [ByteArray.toList_eq] at h1
 exact bytes_inj (by rw [h1];rfl)
theorem noB_is:noB.toList.isEmpty=true:=by rw [ByteArray.toList_eq];rfl
set_option maxHeartbeats 4000000 in
theorem NS.step (n:NS w0 X H w bd j jx d h x) (he:LEnv w0) (now:Int) (hn:NowB now x.sent) (hm:h.l.length≤1000000) (hF:firstA d h≤1000000000) (hx:DmB x) (hb:(skipC d h x).1=0→BatOk (skipC d h x).2.2 h (skipC d h x).2.1) :
  Calls Tryz.prog 14 #[.pointer (some ⟨jx,0,none⟩),.int .i64 now] w fun e w' => e=.returned (.tuple #[.string (stepC now d h x).1.1,.int .i64 (stepC now d h x).1.2])∧NPost w0 X H w bd j jx (stepC now d h x).2.2 h (stepC now d h x).2.1 w':=by
 have HUP:=Lib.hid n.hs.live.up
 have HGA:=Lib.hid (n.gather he hm hF hx hb)
 obtain ⟨c0,c1,c2,c3,c4,c5,c6,c7⟩:=n.cells
 have HNO:=Lib.hid (dm_none c0)
 have HN:=Lib.hid n
 obtain ⟨⟨n1,n2⟩,⟨n3,n4⟩⟩:=hn
 obtain ⟨R,hR⟩:∃ R,R=stepC now d h x:=⟨_,rfl⟩
 rw [← hR]
 unfold stepC at hR
 obtain ⟨G,hG⟩:∃ G,G=gatherC d h x:=⟨_,rfl⟩
 rw [← hG] at hR HGA
 have HR:=Lib.hid hR
 clear hR hG n he hm hF hx hb
 obtain ⟨ho,nx,gp,ou,ma,se⟩:=x
 simp only at *
 go_enter Tryz.func14,Tryz.ntmps14
 go_wp2_with fail
 refine HNO.out.mono ?_
 rintro e y1 ⟨rfl,rfl⟩
 go_wp2_with fail
 refine HUP.out.mono ?_
 rintro e y1 ⟨rfl,rfl⟩
 clear HNO HUP
 by_cases hoff:d.off=true
 case pos =>
  have hre:=HR.out
  rw [if_pos hoff] at hre
  subst hre
  clear HR HGA
  go_wp2_with fail
  refine bodyPost_ret (v:=.tuple #[.string ⟨#[]⟩,.int .i64 51]) (by simp [results,Tryz.results14,go_sem]) rfl ?_
  exact ⟨rfl,NPost.same HN.out (Below.refl _ _)⟩
 case neg =>
 have hre:=HR.out
 rw [if_neg hoff] at hre
 have HR2:=Lib.hid hre
 have hoff2:d.off=false:=by simpa using hoff
 clear HR hre hoff
 by_cases hou:ou=noB
 case neg =>
  have hre:=HR2.out
  rw [if_pos hou] at hre
  have hem:ou.toList.isEmpty=false:=by
   cases hq:ou.toList.isEmpty with
   | true => exact absurd (noB_of hq) hou
   | false => rfl
  clear HR2 HGA
  by_cases hlt:now-se<3
  case pos =>
   rw [if_pos hlt] at hre
   subst hre
   clear hou
   go_wp2_with fail
   refine bodyPost_ret (v:=.tuple #[.string ⟨#[]⟩,.int .i64 0]) (by simp [results,Tryz.results14,go_sem]) rfl ?_
   exact ⟨rfl,NPost.same HN.out (Below.refl _ _)⟩
  case neg =>
   rw [if_neg hlt] at hre
   subst hre
   clear hou
   have f7:=HN.out.blk.free 7
   have hb7:=HN.out.blk.set 7 (.int .i64 now)
   have k5:=hb7.cell 5
   unfold dmVs at hb7 k5
   simp only [List.setIfInBounds_toArray,List.set_cons_zero,List.set_cons_succ,List.getElem?_toArray,List.getElem?_cons_zero,List.getElem?_cons_succ] at hb7 k5
   have hc7:Chg (fun k => k=jx) w (w.setCell ⟨jx,7,none⟩ (.int .i64 now)):=(Chg.refl (fun k => k=jx) w).setCell (p:=⟨jx,_,none⟩) (fun _ => rfl) _
   have HP:=Lib.hid (HN.out.store (x':=⟨ho,nx,gp,ou,ma,now⟩) hc7 hb7)
   clear hb7 hc7
   go_wp2_with fail
   refine bodyPost_ret (v:=.tuple #[.string ou,.int .i64 0]) (by simp [results,Tryz.results14,go_sem]) rfl ?_
   exact ⟨rfl,HP.out⟩
 case pos =>
 have hre:=HR2.out
 rw [if_neg (fun e => e hou)] at hre
 have HR3:=Lib.hid hre
 clear HR2 hre
 have hem:ou.toList.isEmpty=true:=by rw [hou];exact noB_is
 clear hou
 go_wp2_with fail
 refine HGA.out.mono ?_
 rintro e y1 ⟨rfl,hp1⟩
 have HP1:=Lib.hid hp1
 clear hp1 HGA
 obtain ⟨r,x1,d1⟩:=G
 simp only at *
 by_cases hr:r=0
 case neg =>
  have hrb:(r == 0)=false:=by rw [beq_eq_false_iff_ne];exact hr
  have hre:=HR3.out
  rw [if_pos hr] at hre
  subst hre
  clear HR3
  go_wp2_with fail
  refine bodyPost_ret (v:=.tuple #[.string ⟨#[]⟩,.int .i64 r]) (by simp [results,Tryz.results14,go_sem]) rfl ?_
  exact ⟨rfl,HP1.out⟩
 case pos =>
 subst hr
 have hre:=HR3.out
 rw [if_neg (fun e => e rfl)] at hre
 subst hre
 clear HR3 c0 c1 c2 c3 c4 c5 c6 c7
 obtain ⟨X1,H1,hX1,hH1,n9,hk1⟩:=HP1.out
 have HPX:=Lib.hid (fun (x':Dm) (d':Dk) (W:World) (p:NPost w0 X1 H1 y1 bd j jx d' h x' W) => NPost.after hX1 hH1 hk1 p)
 obtain ⟨c0,c1,c2,c3,c4,c5,c6,c7⟩:=n9.cells
 have f7:=n9.blk.free 7
 have hb7:=n9.blk.set 7 (.int .i64 now)
 have k5:=hb7.cell 5
 unfold dmVs at hb7 k5
 simp only [List.setIfInBounds_toArray,List.set_cons_zero,List.set_cons_succ,List.getElem?_toArray,List.getElem?_cons_zero,List.getElem?_cons_succ] at hb7 k5
 have hc7:Chg (fun k => k=jx) y1 (y1.setCell ⟨jx,7,none⟩ (.int .i64 now)):=(Chg.refl (fun k => k=jx) y1).setCell (p:=⟨jx,_,none⟩) (fun _ => rfl) _
 have HP:=Lib.hid (n9.store (x':={ x1 with sent:=now }) hc7 hb7)
 clear hb7 hc7 n9 hX1 hH1 hk1 HP1
 go_wp2_with fail
 refine bodyPost_ret (v:=.tuple #[.string x1.out,.int .i64 0]) (by simp [results,Tryz.results14,go_sem]) rfl ?_
 exact ⟨rfl,HPX.out _ _ _ HP.out⟩
end
end Go.Proofs.YtdacanghbepjpaaGreatDoor
namespace Go.Proofs.YtdacanghbepjpaaGreatDoor
set_option linter.unusedSimpArgs false
set_option linter.unusedVariables false
set_option maxRecDepth 100000
open Go.RowKit Go.Maps
open Dsk
section
variable {w0 w w' w2:World} {X H X2 H2 S:Nat→Prop} {bd j jx:Nat} {d d' d2:Dk} {h h' h2:Hl} {x x' x2:Dm}
structure TakB (x:Dm):Prop where
 next:0≤x.next∧x.next≤2147483647
 gap:0≤x.gap∧x.gap≤2147483647
 many:0≤x.many∧x.many≤1000
set_option maxHeartbeats 4000000 in
theorem NS.take (n:NS w0 X H w bd j jx d h x) (b:ByteArray) (hb:b.size≤maxLen) (hx:TakB x) :
  Calls Tryz.prog 15 #[.pointer (some ⟨jx,0,none⟩),.string b] w fun e w' => e=.returned (.tuple #[.bool (takeC b.data.toList d x).1.1,.int .i64 (takeC b.data.toList d x).1.2])∧NPost w0 X H w bd j jx (takeC b.data.toList d x).2.2 h (takeC b.data.toList d x).2.1 w':=by
 have HUP:=Lib.hid n.hs.live.up
 have HDA:=Lib.hid (decAck_any b hb w)
 obtain ⟨c0,c1,c2,c3,c4,c5,c6,c7⟩:=n.cells
 have HNO:=Lib.hid (dm_none c0)
 have HN:=Lib.hid n
 obtain ⟨R,hR⟩:∃ R,R=takeC b.data.toList d x:=⟨_,rfl⟩
 rw [← hR]
 unfold takeC at hR
 unfold decAckV at HDA
 have HR:=Lib.hid hR
 have HX:=Lib.hid hx
 clear hR n hx
 obtain ⟨ho,nx,gp,ou,ma,se⟩:=x
 simp only at *
 go_enter Tryz.func15,Tryz.ntmps15
 go_wp2_with fail
 refine HNO.out.mono ?_
 rintro e y1 ⟨rfl,rfl⟩
 go_wp2_with fail
 refine HUP.out.mono ?_
 rintro e y1 ⟨rfl,rfl⟩
 clear HNO HUP
 by_cases hoff:d.off=true
 case pos =>
  have hre:=HR.out
  rw [if_pos hoff] at hre
  subst hre
  clear HR HDA
  go_wp2_with fail
  refine bodyPost_ret (v:=.tuple #[.bool false,.int .i64 51]) (by simp [results,Tryz.results15,go_sem]) rfl ?_
  exact ⟨rfl,NPost.same HN.out (Below.refl _ _)⟩
 case neg =>
 have hre:=HR.out
 rw [if_neg hoff] at hre
 have HR2:=Lib.hid hre
 have hoff2:d.off=false:=by simpa using hoff
 clear HR hre hoff
 go_wp2_with fail
 refine HDA.out.mono ?_
 rintro e y1 ⟨rfl,hb1⟩
 have HB1:=Lib.hid hb1
 clear hb1 HDA c0 c1 c2 c3 c4 c5 c6 c7
 cases hda:Po.decAck b.data.toList with
 | none =>
  rw [hda] at HR2
  simp only at HR2 ⊢
  have hre:=HR2.out
  subst hre
  clear HR2
  unfold ackV
  have HB2:=Lib.hid (show Below w.heap.size w (y1.alloc (.cells #[.int .i64 0,.int .i64 0,.int .i64 0] 51 (0,0))) from HB1.out.alloc HB1.out.size _)
  go_wp2_with fail
  refine bodyPost_ret (v:=.tuple #[.bool false,.int .i64 30]) (by simp [results,Tryz.results15,go_sem]) rfl ?_
  exact ⟨rfl,NPost.same HN.out HB2.out⟩
 | some q =>
  obtain ⟨ha,hf,hn⟩:=q
  rw [hda] at HR2
  simp only at HR2 ⊢
  unfold ackV
  have hak:=Po.decAck_ok hda
  obtain ⟨qa,hqa⟩:∃ q,q=y1.heap.size:=⟨_,rfl⟩
  obtain ⟨y2,hy2⟩:∃ y,y=y1.alloc (.cells #[.int .i64 ha,.int .i64 hf,.int .i64 hn] 51 (0,0)):=⟨_,rfl⟩
  have hb2:Below w.heap.size w y2:=by rw [hy2];exact HB1.out.alloc HB1.out.size _
  have hk2:Blk y2 qa 51 #[.int .i64 ha,.int .i64 hf,.int .i64 hn]:=by rw [hy2,hqa];exact Blk.alloc_new y1 _ _
  have hqx:w.heap.size≤qa:=by rw [hqa];exact HB1.out.size
  obtain ⟨c0,c1,c2,c3,c4,c5,c6,c7⟩:=(HN.out.below hb2).cells
  have a0:=hk2.cell 0
  have a1:=hk2.cell 1
  have a2:=hk2.cell 2
  simp only [List.getElem?_toArray,List.getElem?_cons_zero,List.getElem?_cons_succ] at a0 a1 a2
  obtain ⟨⟨x1,x2⟩,⟨x3,x4⟩,⟨x5,x6⟩⟩:=HX.out
  simp only at x1 x2 x3 x4 x5 x6
  have wr1:IntKind.i64.wrap (nx+ma)=nx+ma:=by rw [IntKind.wrap_i64];omega
  have HY2:=Lib.hid hy2
  have HB2:=Lib.hid hb2
  have HK2:=Lib.hid hk2
  have HAK:=Lib.hid (show -9223372036854775808≤hn∧hn≤9223372036854775807 from ⟨by have:=hak.next.1;omega,by have:=hak.next.2;omega⟩)
  have HQA:=Lib.hid hqa
  clear hy2 hb2 hk2 hak hda hqa
  by_cases hou:ou=noB
  case pos =>
   have hre:=HR2.out
   rw [if_pos (.inl hou)] at hre
   subst hre
   have hem:ou.toList.isEmpty=true:=by rw [hou];exact noB_is
   clear hou HR2
   go_wp2_with fail
   rw [← HY2.out,← HQA.out]
   go_quiet (fail)
   have HB3:=Lib.hid (HB2.out.trans ((below_drewN y2 nq).mono HB2.out.size))
   go_wp2_with fail
   refine bodyPost_ret (v:=.tuple #[.bool false,.int .i64 0]) (by simp [results,Tryz.results15,go_sem]) rfl ?_
   exact ⟨rfl,NPost.same HN.out HB3.out⟩
  case neg =>
  have hem:ou.toList.isEmpty=false:=by
   cases hq:ou.toList.isEmpty with
   | true => exact absurd (noB_of hq) hou
   | false => rfl
  by_cases h1:ha=ho
  case neg =>
   have hre:=HR2.out
   rw [if_pos (.inr (.inl h1))] at hre
   subst hre
   have hn1:(ha != ho)=true:=by rw [bne_iff_ne];exact h1
   clear hou h1 HR2
   go_wp2_with fail
   rw [← HY2.out,← HQA.out]
   go_quiet (fail)
   have HB3:=Lib.hid (HB2.out.trans ((below_drewN y2 nq).mono HB2.out.size))
   go_wp2_with fail
   refine bodyPost_ret (v:=.tuple #[.bool false,.int .i64 0]) (by simp [results,Tryz.results15,go_sem]) rfl ?_
   exact ⟨rfl,NPost.same HN.out HB3.out⟩
  case pos =>
  by_cases h2:hf=nx
  case neg =>
   have hre:=HR2.out
   rw [if_pos (.inr (.inr (.inl h2)))] at hre
   subst hre
   have hn1:(ha != ho)=false:=by rw [bne_eq_false_iff_eq];exact h1
   have hn2:(hf != nx)=true:=by rw [bne_iff_ne];exact h2
   clear hou h1 h2 HR2
   go_wp2_with fail
   rw [← HY2.out,← HQA.out]
   go_quiet (fail)
   have HB3:=Lib.hid (HB2.out.trans ((below_drewN y2 nq).mono HB2.out.size))
   go_wp2_with fail
   refine bodyPost_ret (v:=.tuple #[.bool false,.int .i64 0]) (by simp [results,Tryz.results15,go_sem]) rfl ?_
   exact ⟨rfl,NPost.same HN.out HB3.out⟩
  case pos =>
  by_cases h3:hn=nx+ma
  case neg =>
   have hre:=HR2.out
   rw [if_pos (.inr (.inr (.inr h3)))] at hre
   subst hre
   have hn1:(ha != ho)=false:=by rw [bne_eq_false_iff_eq];exact h1
   have hn2:(hf != nx)=false:=by rw [bne_eq_false_iff_eq];exact h2
   have hn3:(hn != nx+ma)=true:=by rw [bne_iff_ne];exact h3
   clear hou h1 h2 h3 HR2
   go_wp2_with fail
   rw [← HY2.out,← HQA.out]
   go_quiet (fail)
   have HB3:=Lib.hid (HB2.out.trans ((below_drewN y2 nq).mono HB2.out.size))
   go_wp2_with fail
   refine bodyPost_ret (v:=.tuple #[.bool false,.int .i64 0]) (by simp [results,Tryz.results15,go_sem]) rfl ?_
   exact ⟨rfl,NPost.same HN.out HB3.out⟩
  case pos =>
  have hre:=HR2.out
  rw [if_neg (by rintro (e | e | e | e);exact hou e;exact e h1;exact e h2;exact e h3)] at hre
  have hn1:(ha != ho)=false:=by rw [bne_eq_false_iff_eq];exact h1
  have hn2:(hf != nx)=false:=by rw [bne_eq_false_iff_eq];exact h2
  have hn3:(hn != nx+ma)=false:=by rw [bne_eq_false_iff_eq];exact h3
  obtain ⟨G,hG⟩:∃ G,G=keepC d ⟨ho,nx,gp,ou,ma,se⟩ hn gp:=⟨_,rfl⟩
  rw [← hG] at hre
  have HRE:=Lib.hid hre
  have HKP:=Lib.hid (fun (W:World) (hW:Below w.heap.size w W) => (HN.out.below hW).keep hn gp HAK.out (by omega))
  rw [← hG] at HKP
  have HCC:=Lib.hid (fun (W:World) (hW:Below w.heap.size w W) => (HN.out.below hW).cells)
  clear hou h1 h2 h3 HR2 hre hG
  go_wp2_with fail
  rw [← HY2.out,← HQA.out]
  go_quiet (fail)
  obtain ⟨y3,hy3⟩:∃ y,y=y2.drewN nq:=⟨_,rfl⟩
  rw [← hy3]
  have hb3:Below y2.heap.size y2 y3:=by rw [hy3];exact below_drewN y2 nq
  clear hy3
  obtain ⟨y4,hy4⟩:∃ y,y=y3.drew:=⟨_,rfl⟩
  have hb4:Below y2.heap.size y2 y4:=by rw [hy4];exact hb3.drew
  have HB4:=Lib.hid (HB2.out.trans (hb4.mono HB2.out.size))
  have hk4:=HK2.out.below hb4
  have a2:=hk4.cell 2
  simp only [List.getElem?_toArray,List.getElem?_cons_zero,List.getElem?_cons_succ] at a2
  obtain ⟨c0,c1,c2,c3,c4,c5,c6,c7⟩:=HCC.out y4 HB4.out
  have hT:True:=trivial
  have hS:y4.cell? ⟨qa,2,none⟩=some (.int .i64 hn)∧y4.cell? ⟨jx,4,none⟩=some (.int .i64 gp):=⟨a2,c4⟩
  clear hb3 hb4 hk4 a2 c0 c1 c2 c3 c4 c5 c6 c7 hn1 hn2 hn3 wr1 HCC
  go_wp2_with fail
  refine wp_region_two (T:=fun _ => True) (S:=fun _ => True) (n:=99) (by kernel_rfl) ?_
  rw [← hy4]
  clear hy4
  obtain ⟨s3,s4⟩:=hS
  have hS:True:=trivial
  have hke:=HKP.out y4 HB4.out
  unfold curV at hke
  have HKE:=Lib.hid hke
  clear hke HKP
  refine tk 0 68 hT hS ?_
  refine tk 1 69 hT hS ?_
  try simp only [xq]
  refine tk 3 71 hT hS ?_
  refine tk 4 72 hT hS ?_
  try simp only [xq]
  refine tk 5 73 hT hS ?_
  refine tk 6 74 hT hS ?_
  try simp only [xq]
  refine two_two 2 7 rfl rfl (by kernel_rfl) ?_ ?_
  · skip
    intro K hK
    go_simp
    refine hK.out _ _ hT (fun _ _ => hS) ?_
    clear hK K
    try simp only [xq]
    refine two_one 7 rfl (by kernel_rfl) ?_
    intro K hK
    go_simp
    refine hK.out _ _ hT (fun _ _ => hS) ?_
    clear hK K
    try simp only [xq]
    refine tk 8 76 hT hS ?_
    try simp only [xq]
    refine two_one 9 rfl (by kernel_rfl) ?_
    intro K hK
    go_simp
    refine HKE.out.mono ?_
    rintro e y5 ⟨rfl,hp5⟩
    have HP5:=Lib.hid (show NPost w0 X H w bd j jx G.2.2 h G.2.1 y5 from NPost.after (fun k e => e) (fun k e => .inl e) (Chg.of_below HB4.out) hp5)
    refine hK.out _ _ hT (fun _ _ => hS) ?_
    clear hK K hp5 HKE s3 s4
    try simp only [xq]
    refine two_one 10 rfl (by kernel_rfl) ?_
    intro K hK
    go_simp
    refine hK.out _ _ hT (fun e _ => by exact absurd e (by decide)) ?_
    clear hK K
    try simp only [xq]
    refine two_done (by kernel_rfl) ?_ _
    obtain ⟨r,x9,d9⟩:=G
    simp only at HRE HP5 ⊢
    by_cases hr:r=0
    case neg =>
     have hrb:(r == 0)=false:=by rw [beq_eq_false_iff_ne];exact hr
     have hre:=HRE.out
     rw [if_pos hr] at hre
     subst hre
     clear HRE
     go_wp2_with fail
     refine bodyPost_ret (v:=.tuple #[.bool false,.int .i64 r]) (by simp [results,Tryz.results15,go_sem]) rfl ?_
     exact ⟨rfl,HP5.out⟩
    case pos =>
    subst hr
    have hre:=HRE.out
    rw [if_neg (fun e => e rfl)] at hre
    subst hre
    clear HRE
    obtain ⟨X1,H1,hX1,hH1,n9,hk1⟩:=HP5.out
    have HPX:=Lib.hid (fun (x':Dm) (d':Dk) (W:World) (p:NPost w0 X1 H1 y5 bd j jx d' h x' W) => NPost.after hX1 hH1 hk1 p)
    obtain ⟨c0,c1,c2,c3,c4,c5,c6,c7⟩:=n9.cells
    have f5:=n9.blk.free 5
    have f6:=n9.blk.free 6
    have hb7:=(n9.blk.set 5 (.string ⟨#[]⟩)).set 6 (.int .i64 0)
    unfold dmVs at hb7
    simp only [List.setIfInBounds_toArray,List.set_cons_zero,List.set_cons_succ] at hb7
    have hc7:Chg (fun k => k=jx) y5 ((y5.setCell ⟨jx,5,none⟩ (.string ⟨#[]⟩)).setCell ⟨jx,6,none⟩ (.int .i64 0)):=((Chg.refl (fun k => k=jx) y5).setCell (p:=⟨jx,_,none⟩) (fun _ => rfl) _).setCell (p:=⟨jx,_,none⟩) (fun _ => rfl) _
    have HP:=Lib.hid (n9.store (x':={ x9 with out:=noB,many:=0 }) hc7 hb7)
    clear hb7 hc7 n9 hX1 hH1 hk1 HP5
    go_wp2_with fail
    refine bodyPost_ret (v:=.tuple #[.bool true,.int .i64 0]) (by simp [results,Tryz.results15,go_sem]) rfl ?_
    exact ⟨rfl,HPX.out _ _ _ HP.out⟩
  · skip
    intro K hK
    go_simp
    refine hK.out _ _ hT (fun _ _ => hS) ?_
    clear hK K
    try simp only [xq]
    refine two_one 2 rfl (by kernel_rfl) ?_
    intro K hK
    go_simp
    refine hK.out _ _ hT (fun _ _ => hS) ?_
    clear hK K
    try simp only [xq]
    refine tk 8 76 hT hS ?_
    try simp only [xq]
    refine two_one 9 rfl (by kernel_rfl) ?_
    intro K hK
    go_simp
    refine HKE.out.mono ?_
    rintro e y5 ⟨rfl,hp5⟩
    have HP5:=Lib.hid (show NPost w0 X H w bd j jx G.2.2 h G.2.1 y5 from NPost.after (fun k e => e) (fun k e => .inl e) (Chg.of_below HB4.out) hp5)
    refine hK.out _ _ hT (fun _ _ => hS) ?_
    clear hK K hp5 HKE s3 s4
    try simp only [xq]
    refine two_one 10 rfl (by kernel_rfl) ?_
    intro K hK
    go_simp
    refine hK.out _ _ hT (fun e _ => by exact absurd e (by decide)) ?_
    clear hK K
    try simp only [xq]
    refine two_done (by kernel_rfl) ?_ _
    obtain ⟨r,x9,d9⟩:=G
    simp only at HRE HP5 ⊢
    by_cases hr:r=0
    case neg =>
     have hrb:(r == 0)=false:=by rw [beq_eq_false_iff_ne];exact hr
     have hre:=HRE.out
     rw [if_pos hr] at hre
     subst hre
     clear HRE
     go_wp2_with fail
     refine bodyPost_ret (v:=.tuple #[.bool false,.int .i64 r]) (by simp [results,Tryz.results15,go_sem]) rfl ?_
     exact ⟨rfl,HP5.out⟩
    case pos =>
    subst hr
    have hre:=HRE.out
    rw [if_neg (fun e => e rfl)] at hre
    subst hre
    clear HRE
    obtain ⟨X1,H1,hX1,hH1,n9,hk1⟩:=HP5.out
    have HPX:=Lib.hid (fun (x':Dm) (d':Dk) (W:World) (p:NPost w0 X1 H1 y5 bd j jx d' h x' W) => NPost.after hX1 hH1 hk1 p)
    obtain ⟨c0,c1,c2,c3,c4,c5,c6,c7⟩:=n9.cells
    have f5:=n9.blk.free 5
    have f6:=n9.blk.free 6
    have hb7:=(n9.blk.set 5 (.string ⟨#[]⟩)).set 6 (.int .i64 0)
    unfold dmVs at hb7
    simp only [List.setIfInBounds_toArray,List.set_cons_zero,List.set_cons_succ] at hb7
    have hc7:Chg (fun k => k=jx) y5 ((y5.setCell ⟨jx,5,none⟩ (.string ⟨#[]⟩)).setCell ⟨jx,6,none⟩ (.int .i64 0)):=((Chg.refl (fun k => k=jx) y5).setCell (p:=⟨jx,_,none⟩) (fun _ => rfl) _).setCell (p:=⟨jx,_,none⟩) (fun _ => rfl) _
    have HP:=Lib.hid (n9.store (x':={ x9 with out:=noB,many:=0 }) hc7 hb7)
    clear hb7 hc7 n9 hX1 hH1 hk1 HP5
    go_wp2_with fail
    refine bodyPost_ret (v:=.tuple #[.bool true,.int .i64 0]) (by simp [results,Tryz.results15,go_sem]) rfl ?_
    exact ⟨rfl,HPX.out _ _ _ HP.out⟩
end
end Go.Proofs.YtdacanghbepjpaaGreatDoor
namespace Go.Proofs.YtdacanghbepjpaaGreatDoor
set_option linter.unusedSimpArgs false
set_option linter.unusedVariables false
set_option maxRecDepth 100000
open Go.RowKit Go.Maps
open Dsk
section
variable {w0 w w' w2:World} {X H X2 H2 S:Nat→Prop} {bd j jx:Nat} {d d' d2:Dk} {h h' h2:Hl} {x x' x2:Dm}
set_option maxHeartbeats 2000000 in
theorem HS.daemon (h0:HS w0 X H w (.pointer (some ⟨bd,0,none⟩)) d j h) (host:Int) (hh:Po.HostOk host) :
  Calls Tryz.prog 19 #[.pointer (some ⟨bd,0,none⟩),.pointer (some ⟨j,0,none⟩),.int .i64 host] w fun e w' =>
   ((loadD d).2=0∧∃ jx,e=.returned (.tuple #[.pointer (some ⟨jx,0,none⟩),.int .i64 0])∧NS w0 (Also X w w') H w' bd j jx d h ⟨host,(loadD d).1.1,(loadD d).1.2,noB,0,0⟩∧w.heap.size≤jx∧Below w.heap.size w w') ∨
   ((loadD d).2≠0∧e=.returned (.tuple #[.pointer none,.int .i64 (loadD d).2])∧Below w.heap.size w w'):=by
 have HLO:=Lib.hid h0.live.load
 have H0:=Lib.hid h0
 have hsz:=h0.live.size
 obtain ⟨h1,h2⟩:=hh
 have h3:¬ host<0:=by omega
 have h4:¬ host≥4:=by omega
 obtain ⟨R,hR⟩:∃ R,R=loadD d:=⟨_,rfl⟩
 rw [← hR] at HLO ⊢
 obtain ⟨⟨a,b⟩,r⟩:=R
 simp only at HLO ⊢
 unfold curV at HLO
 clear hR h0
 go_enter Tryz.func19,Tryz.ntmps19
 go_wp2_with fail
 refine HLO.out.mono ?_
 rintro e y1 ⟨rfl,hb1⟩
 have HB1:=Lib.hid hb1
 clear hb1 HLO
 obtain ⟨qa,hqa⟩:∃ q,q=y1.heap.size:=⟨_,rfl⟩
 obtain ⟨y2,hy2⟩:∃ y,y=y1.alloc (.cells #[.int .i64 a,.int .i64 b] 30 (0,0)):=⟨_,rfl⟩
 have hb2:Below w.heap.size w y2:=by rw [hy2];exact HB1.out.alloc HB1.out.size _
 have hk2:Blk y2 qa 30 #[.int .i64 a,.int .i64 b]:=by rw [hy2,hqa];exact Blk.alloc_new y1 _ _
 by_cases hr:r=0
 case neg =>
  have hrb:(r == 0)=false:=by rw [beq_eq_false_iff_ne];exact hr
  have HB2:=Lib.hid hb2
  have HY2:=Lib.hid hy2
  clear hb2 hk2 hqa hy2
  go_wp2_with fail
  refine bodyPost_ret (v:=.tuple #[.pointer none,.int .i64 r]) (by simp [results,Tryz.results19,go_sem]) rfl ?_
  rw [← HY2.out]
  exact .inr ⟨hr,rfl,HB2.out⟩
 case pos =>
 subst hr
 obtain ⟨qx,hqx⟩:∃ q,q=y2.heap.size:=⟨_,rfl⟩
 obtain ⟨y3,hy3⟩:∃ y,y=y2.alloc (.cells #[.pointer (some ⟨bd,0,none⟩),.pointer (some ⟨j,0,none⟩),.int .i64 host,.int .i64 a,.int .i64 b,.string ⟨#[]⟩,.int .i64 0,.int .i64 0] 37 (0,0)):=⟨_,rfl⟩
 have hb3:Below w.heap.size w y3:=by rw [hy3];exact hb2.alloc hb2.size _
 have hk3:Blk y3 qx 37 (dmVs bd j ⟨host,a,b,noB,0,0⟩):=by rw [hy3,hqx];exact Blk.alloc_new y2 _ _
 have hwq:w.heap.size≤qx:=by rw [hqx];exact hb2.size
 have hns:NS w0 (Also X w y3) H y3 bd j qx d h ⟨host,a,b,noB,0,0⟩:=by
  obtain ⟨live,⟨lv,vs,hbl,hrr,hi⟩,sub,new⟩:=H0.out
  have hc:Chg (fun _ => False) w y3:=Chg.of_below hb3
  exact ⟨⟨live.add hb3,⟨lv,vs,hbl.chg hc (fun e => e),hrr.chg hc fun b hb e => e,hi⟩,fun b hb => .inl (sub b hb),fun b hb => ⟨(new b hb).1,Nat.lt_of_lt_of_le (new b hb).2 hb3.size⟩⟩,hk3,.inr ⟨hwq,hk3.lt⟩,fun e => by have:=(new _ e).2;omega,by omega⟩
 have k0:=hk2.cell 0
 have k1:=hk2.cell 1
 simp only [List.getElem?_toArray,List.getElem?_cons_zero,List.getElem?_cons_succ] at k0 k1
 have HNS:=Lib.hid hns
 have HB3:=Lib.hid hb3
 have HY2:=Lib.hid hy2
 have HY3:=Lib.hid hy3
 have HQA:=Lib.hid hqa
 have HQX:=Lib.hid hqx
 have HWQ:=Lib.hid hwq
 have HQE:=Lib.hid (show qx=qa+1 by rw [hqx,hqa,hy2,alloc_size])
 clear hb2 hk2 hqa hy2 hb3 hk3 hqx hwq hns hy3
 go_wp2_with fail
 try rw [← HY2.out,← HQA.out]
 go_wp2_with fail
 refine bodyPost_ret (v:=.tuple #[.pointer (some ⟨qa+1,0,none⟩),.int .i64 0]) (by simp [results,Tryz.results19,go_sem]) rfl ?_
 rw [← HY3.out,← HQE.out]
 exact ⟨qx,rfl,HNS.out,HWQ.out,HB3.out⟩
end
/-! ### a node and its blocks -/
def NA (w0:World) (P:Nat→Prop) (W:World) (bd j jx:Nat) (d:Dk) (h:Hl) (x:Dm):Prop :=
 ∃ X H,NS w0 X H W bd j jx d h x∧(∀ k,k<W.heap.size→w0.heap.size≤k→(¬ X k∨H k∨k=jx)→P k)∧∀ k,P k→k<W.heap.size
def DA (w0:World) (P:Nat→Prop) (W:World) (bd:Nat) (d:Dk):Prop :=
 ∃ X,Live w0 X W (.pointer (some ⟨bd,0,none⟩)) d∧(∀ k,k<W.heap.size→w0.heap.size≤k→¬ X k→P k)∧∀ k,P k→k<W.heap.size
def LA (w0:World) (P:Nat→Prop) (W:World) (bd j:Nat) (d:Dk) (h:Hl):Prop :=
 ∃ X H,HS w0 X H W (.pointer (some ⟨bd,0,none⟩)) d j h∧(∀ k,k<W.heap.size→w0.heap.size≤k→(¬ X k∨H k)→P k)∧∀ k,P k→k<W.heap.size
def Gr (P P':Nat→Prop) (w:World):Prop:=∀ k,P' k→P k∨w.heap.size≤k
section
variable {w0 w w' w2:World} {P P' Q S:Nat→Prop} {bd j jx:Nat} {d d' d2:Dk} {h h' h2:Hl} {x x' x2:Dm}
theorem Gr.refl (P:Nat→Prop) (w:World):Gr P P w:=fun _ e => .inl e
theorem Gr.trans {w1:World} (a:Gr P P' w) (hs:w.heap.size≤w1.heap.size) (b:Gr P' Q w1):Gr P Q w:=fun k e => by
 rcases b k e with e | e
 · exact a k e
 · exact .inr (Nat.le_trans hs e)
theorem Gr.not (a:Gr P P' w) {k:Nat} (hk:k<w.heap.size) (hp:¬ P k):¬ P' k:=fun e => by
 rcases a k e with e | e
 · exact hp e
 · omega
theorem NA.base (n:NA w0 P w bd j jx d h x):Below w0.heap.size w0 w:=by obtain ⟨X,H,n,_⟩:=n;exact n.base
theorem DA.base (n:DA w0 P w bd d):Below w0.heap.size w0 w:=by obtain ⟨X,n,_⟩:=n;exact n.below
theorem DA.ok (n:DA w0 P w bd d):Ok d:=by obtain ⟨X,n,_⟩:=n;exact n.ok
theorem NA.acted {X H:Nat→Prop} (hn:NS w0 X H w bd j jx d h x) (hP:∀ k,k<w.heap.size→w0.heap.size≤k→(¬ X k∨H k∨k=jx)→P k) (p:NPost w0 X H w bd j jx d' h' x' w') :
  ∃ P',Gr P P' w∧NA w0 P' w' bd j jx d' h' x'∧Chg P w w':=by
 obtain ⟨X',H',h1,h2,n',hk⟩:=p
 refine ⟨fun k => (P k∨w.heap.size≤k)∧k<w'.heap.size,fun k e => e.1,⟨X',H',n',fun k h3 h4 h5 => ⟨?_,h3⟩,fun k e => e.2⟩,?_⟩
 · by_cases hlt:k<w.heap.size
   · refine .inl (hP k hlt h4 ?_)
     rcases h5 with h5 | h5 | h5
     · exact .inl fun e => h5 (h1 k e)
     · rcases h2 k h5 with e | e
       · exact .inr (.inl e)
       · omega
     · exact .inr (.inr h5)
   · exact .inr (by omega)
 · refine ⟨hk.os,hk.tape,hk.output,hk.size,fun i hi hs => ?_⟩
   by_cases hb:w0.heap.size≤i
   · exact hk.block i hi fun e => hs (hP i hi hb e)
   · have e1:=hn.base.block i (by omega)
     have e2:=n'.base.block i (by omega)
     rw [e2,e1]
theorem NA.other (n:NA w0 P w bd j jx d h x) (c:Chg S w w') (hS:∀ k,k<w.heap.size→S k→w0.heap.size≤k∧¬ P k):NA w0 P w' bd j jx d h x:=by
 obtain ⟨X,H,n,hP,hU⟩:=n
 have hX:∀ b,b<w.heap.size→S b→X b∧¬ H b∧b≠jx:=fun b hb hs => by
  obtain ⟨h1,h2⟩:=hS b hb hs
  have h3:=fun e => h2 (hP b hb h1 e)
  exact ⟨Classical.byContradiction fun e => h3 (.inl e),fun e => h3 (.inr (.inl e)),fun e => h3 (.inr (.inr e))⟩
 have c2:Chg (fun k => S k∧k<w.heap.size) w w':=⟨c.os,c.tape,c.output,c.size,fun i hi hs => c.block i hi fun e => hs ⟨e,hi⟩⟩
 obtain ⟨live,⟨lv,vs,hbl,hr,hi⟩,sub,new⟩:=n.hs
 have hl:=live.addChg c2 fun b hb => ⟨(hX b hb.2 hb.1).1,(hS b hb.2 hb.1).1⟩
 have hj:∀ b,S b∧b<w.heap.size→¬ H b:=fun b hb => (hX b hb.2 hb.1).2.1
 refine ⟨_,H,⟨⟨hl,⟨lv,vs,hbl.chg c2 fun e => hj _ e (hi j (.inl rfl)),hr.chg c2 fun b hb e => hj b e (hi b (.inr hb)),hi⟩,fun b hb => .inl (sub b hb),fun b hb => ⟨(new b hb).1,Nat.lt_of_lt_of_le (new b hb).2 c.size⟩⟩,n.blk.chg c2 fun e => (hX _ e.2 e.1).2.2 rfl,.inl n.inX,n.out,n.new⟩,fun k h3 h4 h5 => ?_,fun k e => Nat.lt_of_lt_of_le (hU k e) c.size⟩
 by_cases hlt:k<w.heap.size
 · refine hP k hlt h4 ?_
   rcases h5 with h5 | h5
   · exact .inl fun e => h5 (.inl e)
   · exact .inr h5
 · rcases h5 with h5 | h5 | h5
   · exact absurd (.inr ⟨by omega,h3⟩) h5
   · have:=(new k h5).2;omega
   · have:=n.blk.lt;omega
theorem NA.below (n:NA w0 P w bd j jx d h x) (y:Below w.heap.size w w'):NA w0 P w' bd j jx d h x:=n.other (S:=fun _ => False) (Chg.of_below y) fun _ _ e => e.elim
theorem DA.other (n:DA w0 P w bd d) (c:Chg S w w') (hS:∀ k,k<w.heap.size→S k→w0.heap.size≤k∧¬ P k):DA w0 P w' bd d:=by
 obtain ⟨X,n,hP,hU⟩:=n
 have c2:Chg (fun k => S k∧k<w.heap.size) w w':=⟨c.os,c.tape,c.output,c.size,fun i hi hs => c.block i hi fun e => hs ⟨e,hi⟩⟩
 have hl:=n.addChg c2 fun b hb => ⟨Classical.byContradiction fun e => (hS b hb.2 hb.1).2 (hP b hb.2 (hS b hb.2 hb.1).1 e),(hS b hb.2 hb.1).1⟩
 refine ⟨_,hl,fun k h3 h4 h5 => ?_,fun k e => Nat.lt_of_lt_of_le (hU k e) c.size⟩
 by_cases hlt:k<w.heap.size
 · exact hP k hlt h4 fun e => h5 (.inl e)
 · exact absurd (.inr ⟨by omega,h3⟩) h5
theorem DA.below (n:DA w0 P w bd d) (y:Below w.heap.size w w'):DA w0 P w' bd d:=n.other (S:=fun _ => False) (Chg.of_below y) fun _ _ e => e.elim
end
end Go.Proofs.YtdacanghbepjpaaGreatDoor
namespace Go.Proofs.YtdacanghbepjpaaGreatDoor
set_option linter.unusedSimpArgs false
set_option linter.unusedVariables false
set_option maxRecDepth 100000
open Go.RowKit Go.Maps
open Dsk
def Acted (w0:World) (P:Nat→Prop) (w:World) (bd j jx:Nat) (d':Dk) (h':Hl) (x':Dm) (w':World):Prop:=∃ P',Gr P P' w∧NA w0 P' w' bd j jx d' h' x'∧Chg P w w'
section
variable {w0 w w' w2:World} {P P' Q S:Nat→Prop} {bd j jx:Nat} {d d' d2:Dk} {h h' h2:Hl} {x x' x2:Dm} {s:Nat} {l:List Sg} {t:Str} {dr:Files}
theorem NodeP.bnd (p:NodeP d h s x) (hn:nextOf h.l≤900000000):SgsBnd h.l∧h.l.length≤1024:=by
 obtain ⟨dr,f,_⟩:=p.run.file
 have h0:=f.recs_leC
 refine ⟨⟨f.sgs.may,fun a ha => Nat.le_trans ((nextOf_above f.sgs.chain).1 a ha) (by omega),fun a ha => ?_,by omega⟩,h0.2⟩
 have h1:=spans_le h.l a ha
 omega
theorem NodeP.recs_le (p:NodeP d h s x):(recs h.l).length≤65536:=by
 obtain ⟨dr,f,_⟩:=p.run.file
 exact f.recs_leC.1
theorem NodeP.dmB (p:NodeP d h s x) (hn:nextOf h.l≤900000000):DmB x∧TakB x:=by
 have h1:=p.gap
 have h2:=p.sure
 have h3:=sureOf_le h.l s
 refine ⟨⟨by omega,by omega⟩,⟨by omega,by omega,?_⟩⟩
 rcases p.out with ⟨_,e⟩ | ⟨ss,_,e,e2,e3,_⟩ <;> omega
theorem NodeP.batOk (p:NodeP d h s x) (hf:(firstOf h.l:Int)≤x.next) (hn:nextOf h.l≤900000000):BatOk d h x:=by
 obtain ⟨e1,e2⟩:=p.first
 obtain ⟨b1,b2⟩:=p.bnd hn
 have h1:=p.gap
 have h2:=p.sure
 have h3:=sureOf_le h.l s
 have h4:=first_le_sure p.run.chain s
 refine ⟨⟨b1,by rw [numbered_length];have:=p.recs_le;omega,by rw [p.run.sureL];omega,by omega,by rw [e1];omega⟩,(p.dmB hn).1,?_⟩
 intro hlt _ _
 rw [e2] at hlt
 obtain ⟨n,hn9⟩:∃ n:Nat,x.next=n:=⟨x.next.toNat,by omega⟩
 have hp:=p.run.read (n:=n) (m:=8) (by omega) (by omega)
 have hl:=pageL_len (n:=n) p.run.chain (s:=s) (by omega) (by omega)
 have h8:((8:Nat):Int)=8:=rfl
 rw [h8] at hp
 have hpg:(((recs h.l).take (sureOf h.l s-firstOf h.l)).drop (n-firstOf h.l)).take 8=pageL h.l s n:=rfl
 rw [hpg] at hp
 rw [hn9,hp]
 simp only
 refine ⟨p.host,⟨by omega,by omega⟩,⟨by omega,by omega⟩,by omega,?_,by omega,by omega⟩
 obtain ⟨dr,f,_⟩:=p.run.file
 exact pageL_may f.sgs.may s n
theorem NA.app (n:NA w0 P w bd j jx d h x) (he:LEnv w0) (p:NodeP d h s x) (hn:nextOf h.l≤900000000) (y:Sp.Span) (h1:y.service.size≤maxLen) (h2:y.host.size≤maxLen) (h3:y.note.size≤maxLen) :
  Calls Tryz.prog 20 #[.pointer (some ⟨j,0,none⟩),spV y] w fun e w' => e=.returned (.int .i64 (appP d h y).1)∧Acted w0 P w bd j jx (appP d h y).2.2 (appP d h y).2.1 x w':=by
 obtain ⟨X,H,n,hP,hU⟩:=n
 refine (happend_any n.hs p.run.runs he (p.bnd hn).1 (by have:=(p.bnd hn).2;omega) (by omega) y h1 h2 h3).mono ?_
 rintro e w' ⟨rfl,hp⟩
 exact ⟨rfl,NA.acted n hP (n.log hp)⟩
theorem NA.sync (n:NA w0 P w bd j jx d h x) (he:LEnv w0) (p:NodeP d h s x) (hn:nextOf h.l≤900000000) :
  Calls Tryz.prog 22 #[.pointer (some ⟨j,0,none⟩)] w fun e w' => e=.returned (.int .i64 (syncP d h).1)∧Acted w0 P w bd j jx (syncP d h).2.2 (syncP d h).2.1 x w':=by
 obtain ⟨X,H,n,hP,hU⟩:=n
 refine (hsync_any n.hs p.run.runs he (p.bnd hn).1).mono ?_
 rintro e w' ⟨rfl,hs,hk⟩
 exact ⟨rfl,NA.acted n hP (n.log (HPost.same hs hk))⟩
theorem NA.rot (n:NA w0 P w bd j jx d h x) (he:LEnv w0) (p:NodeP d h s x) (hn:nextOf h.l≤900000000) :
  Calls Tryz.prog 89 #[.pointer (some ⟨j,0,none⟩)] w fun e w' => e=.returned (.int .i64 (rotP d h).1)∧Acted w0 P w bd j jx (rotP d h).2.2 (rotP d h).2.1 x w':=by
 obtain ⟨X,H,n,hP,hU⟩:=n
 refine (hrotate_any n.hs p.run.runs he (p.bnd hn).1 (by omega)).mono ?_
 rintro e w' ⟨rfl,hp⟩
 exact ⟨rfl,NA.acted n hP (n.log hp)⟩
theorem NA.ret (n:NA w0 P w bd j jx d h x) (he:LEnv w0) (p:NodeP d h s x) (hn:nextOf h.l≤900000000) (m:Int) :
  Calls Tryz.prog 90 #[.pointer (some ⟨j,0,none⟩),.int .i64 m] w fun e w' => e=.returned (.int .i64 (retP m d h).1)∧Acted w0 P w bd j jx (retP m d h).2.2 (retP m d h).2.1 x w':=by
 obtain ⟨X,H,n,hP,hU⟩:=n
 refine (hretain_any n.hs p.run.runs he (p.bnd hn).1 m).mono ?_
 rintro e w' ⟨rfl,hp⟩
 exact ⟨rfl,NA.acted n hP (n.log hp)⟩
theorem NA.first (n:NA w0 P w bd j jx d h x) (p:NodeP d h s x) (hn:nextOf h.l≤900000000) :
  Calls Tryz.prog 26 #[.pointer (some ⟨j,0,none⟩)] w fun e w' => e=.returned (.int .i64 (firstOf h.l:Nat))∧Below w.heap.size w w':=by
 obtain ⟨X,H,n,hP,hU⟩:=n
 have:=hfirst_any n.hs (p.bnd hn).1.many
 rw [if_pos p.run.runs] at this
 exact this
theorem NA.sure (n:NA w0 P w bd j jx d h x) (he:LEnv w0) (p:NodeP d h s x) (hn:nextOf h.l≤900000000) :
  Calls Tryz.prog 27 #[.pointer (some ⟨j,0,none⟩)] w fun e w' => e=.returned (.int .i64 (sureOf h.l s:Nat))∧Below w.heap.size w w':=by
 obtain ⟨X,H,n,hP,hU⟩:=n
 have:=hsure_any n.hs (he.below n.base) (p.bnd hn).1
 rw [if_pos p.run.runs,p.run.sureL] at this
 exact this
theorem NA.end_ (n:NA w0 P w bd j jx d h x) (p:NodeP d h s x) (hn:nextOf h.l≤900000000) :
  Calls Tryz.prog 30 #[.pointer (some ⟨j,0,none⟩)] w fun e w' => e=.returned (.int .i64 (nextOf h.l:Nat))∧Below w.heap.size w w':=by
 obtain ⟨X,H,n,hP,hU⟩:=n
 have:=hendn_any n.hs (p.bnd hn).1.many (by omega)
 rw [if_pos p.run.runs] at this
 exact this
theorem NA.cursor (n:NA w0 P w bd j jx d h x):Calls Tryz.prog 16 #[.pointer (some ⟨jx,0,none⟩)] w fun e w' => e=.returned (curV x.next x.gap)∧Below w.heap.size w w':=by
 obtain ⟨X,H,n,hP,hU⟩:=n
 exact n.cursor
theorem NA.waiting (n:NA w0 P w bd j jx d h x):Calls Tryz.prog 17 #[.pointer (some ⟨jx,0,none⟩)] w fun e w' => e=.returned (.bool (!x.out.toList.isEmpty))∧w=w':=by
 obtain ⟨X,H,n,hP,hU⟩:=n
 exact n.waiting
theorem NA.step (n:NA w0 P w bd j jx d h x) (he:LEnv w0) (p:NodeP d h s x) (hn:nextOf h.l≤900000000) (hr1:d.files.length<1024) (hr2:total d.files+19≤d.room) (now:Int) (ho:NowB now x.sent) :
  Calls Tryz.prog 14 #[.pointer (some ⟨jx,0,none⟩),.int .i64 now] w fun e w' => e=.returned (.tuple #[.string (stepC now d h x).1.1,.int .i64 (stepC now d h x).1.2])∧Acted w0 P w bd j jx (stepC now d h x).2.2 h (stepC now d h x).2.1 w':=by
 obtain ⟨X,H,n,hP,hU⟩:=n
 have h3:=sureOf_le h.l s
 have h4:=first_le_sure p.run.chain s
 obtain ⟨e1,e2⟩:=p.first
 by_cases hou:x.out=noB
 · refine (n.step he now ho (p.bnd hn).1.many (by rw [e1];omega) (p.dmB hn).1 fun hk => ?_).mono ?_
   · rcases p.skip hou hr1 hr2 (by omega) with ⟨k1,k2,k3,_⟩ | ⟨k1,_⟩
     · exact k2.batOk k3 hn
     · rw [k1] at hk;exact absurd hk (by decide)
   · rintro e w' ⟨rfl,hp⟩
     exact ⟨rfl,NA.acted n hP hp⟩
 · have hsk:(skipC d h x).1=0→BatOk (skipC d h x).2.2 h (skipC d h x).2.1:=fun hk => by
    have hm:∃ y,y=x.out:=⟨_,rfl⟩
    -- the daemon without its batch
    have p2:NodeP d h s { x with out:=noB,many:=0 }:=⟨p.run,p.gap,p.sure,p.host,.inl ⟨rfl,rfl⟩⟩
    have hk2:(skipC d h { x with out:=noB,many:=0 }).1=0:=by
     unfold skipC keepC at hk ⊢
     simp only at hk ⊢
     split
     · rfl
     · rename_i hle
       rw [if_neg hle] at hk
       split
       · rename_i hz
         rw [if_pos hz] at hk
         exact hk
       · rfl
    have hk3:(skipC d h { x with out:=noB,many:=0 }).2.2=(skipC d h x).2.2∧(skipC d h { x with out:=noB,many:=0 }).2.1={ (skipC d h x).2.1 with out:=noB,many:=0 }:=by
     unfold skipC keepC
     simp only
     split
     · exact ⟨rfl,rfl⟩
     · split
       · exact ⟨rfl,rfl⟩
       · exact ⟨rfl,rfl⟩
    rcases p2.skip rfl hr1 hr2 (by omega) with ⟨k1,k2,k3,_⟩ | ⟨k1,_⟩
    · have b:=k2.batOk k3 hn
      rw [hk3.1,hk3.2] at b
      exact ⟨b.log,⟨b.dm.gap,b.dm.next⟩,b.good⟩
    · rw [k1] at hk2;exact absurd hk2 (by decide)
   refine (n.step he now ho (p.bnd hn).1.many (by rw [e1];omega) (p.dmB hn).1 hsk).mono ?_
   rintro e w' ⟨rfl,hp⟩
   exact ⟨rfl,NA.acted n hP hp⟩
theorem NA.take (n:NA w0 P w bd j jx d h x) (p:NodeP d h s x) (hn:nextOf h.l≤900000000) (b:ByteArray) (hb:b.size≤maxLen) :
  Calls Tryz.prog 15 #[.pointer (some ⟨jx,0,none⟩),.string b] w fun e w' => e=.returned (.tuple #[.bool (takeC b.data.toList d x).1.1,.int .i64 (takeC b.data.toList d x).1.2])∧Acted w0 P w bd j jx (takeC b.data.toList d x).2.2 h (takeC b.data.toList d x).2.1 w':=by
 obtain ⟨X,H,n,hP,hU⟩:=n
 refine (n.take b hb (p.dmB hn).2).mono ?_
 rintro e w' ⟨rfl,hp⟩
 exact ⟨rfl,NA.acted n hP hp⟩
/-! ### a disk, a log, a daemon -/
theorem DA.new (c:Nat) (w:World) (h1:1≤c) (h2:c≤1048576):Calls Tryz.prog 57 #[.int .i64 c] w fun e w' => ∃ bd,e=.returned (.tuple #[.pointer (some ⟨bd,0,none⟩),.int .i64 0])∧DA w (fun k => w.heap.size≤k∧k<w'.heap.size) w' bd (Dk.new c):=by
 refine (live_new c w h1 h2).mono ?_
 rintro e w' ⟨v,rfl,hl⟩
 obtain ⟨bd,rfl⟩:=hl.ptr
 exact ⟨bd,rfl,_,hl,(fun k h3 h4 _ => ⟨h4,h3⟩),fun k e => e.2⟩
theorem LA.made {X N:Nat→Prop} (hn:Live w0 X w (.pointer (some ⟨bd,0,none⟩)) d) (hP:∀ k,k<w.heap.size→w0.heap.size≤k→¬ X k→P k) (hN:NewIn w w' N) (hs:HS w0 (Plus X N) N w' (.pointer (some ⟨bd,0,none⟩)) d' j h') (hk:Keeps X w w') :
  ∃ P',Gr P P' w∧LA w0 P' w' bd j d' h'∧Chg P w w':=by
 refine ⟨fun k => (P k∨w.heap.size≤k)∧k<w'.heap.size,fun k e => e.1,⟨_,_,hs,fun k h3 h4 h5 => ⟨?_,h3⟩,fun k e => e.2⟩,?_⟩
 · by_cases hlt:k<w.heap.size
   · refine .inl (hP k hlt h4 fun e => ?_)
     rcases h5 with h5 | h5
     · exact h5 (.inl e)
     · have:=(hN k h5).1;omega
   · exact .inr (by omega)
 · refine ⟨hk.os,hk.tape,hk.output,hk.size,fun i hi hs2 => ?_⟩
   by_cases hb:w0.heap.size≤i
   · exact hk.block i hi fun e => hs2 (hP i hi hb e)
   · have e1:=hn.below.block i (by omega)
     have e2:=hs.live.below.block i (by omega)
     rw [e2,e1]
theorem DA.openNew (n:DA w0 P w bd d) (hoff:d.off=false) (hfl:d.files=[]) :
  Calls Tryz.prog 101 #[.pointer (some ⟨bd,0,none⟩)] w fun e w' => ∃ j',e=.returned (.tuple #[.pointer (some ⟨j',0,none⟩),.int .i64 0])∧∃ P',Gr P P' w∧LA w0 P' w' bd j' d ⟨d.starts,false,[]⟩∧Chg P w w':=by
 obtain ⟨X,n,hP,hU⟩:=n
 refine (hopen_new n hoff hfl).mono ?_
 rintro e w' ⟨j',rfl,N,hN,hS,hK⟩
 exact ⟨j',rfl,LA.made n hP hN hS hK⟩
theorem LA.daemon (n:LA w0 P w bd j d h) (host:Int) (hh:Po.HostOk host) (hl:(loadD d).2=0) :
  Calls Tryz.prog 19 #[.pointer (some ⟨bd,0,none⟩),.pointer (some ⟨j,0,none⟩),.int .i64 host] w fun e w' =>
   ∃ jx,e=.returned (.tuple #[.pointer (some ⟨jx,0,none⟩),.int .i64 0])∧w.heap.size≤jx∧NA w0 (fun k => P k∨k=jx) w' bd j jx d h ⟨host,(loadD d).1.1,(loadD d).1.2,noB,0,0⟩∧Below w.heap.size w w':=by
 obtain ⟨X,H,n,hP,hU⟩:=n
 refine (n.daemon host hh).mono ?_
 rintro e w' (⟨_,jx,rfl,hns,hq,hb⟩ | ⟨e1,_⟩)
 · refine ⟨jx,rfl,hq,⟨_,H,hns,fun k h3 h4 h5 => ?_,fun k e => e.elim (fun e => Nat.lt_of_lt_of_le (hU k e) hb.size) fun e => by rw [e];exact hns.blk.lt⟩,hb⟩
   rcases h5 with h5 | h5 | h5
   · by_cases hlt:k<w.heap.size
     · exact .inl (hP k hlt h4 (.inl fun e => h5 (.inl e)))
     · exact absurd (.inr ⟨by omega,h3⟩) h5
   · have:=(n.new k h5).2
     exact .inl (hP k this h4 (.inr h5))
   · exact .inr h5
 · exact absurd hl e1
end
end Go.Proofs.YtdacanghbepjpaaGreatDoor
namespace Go.Proofs.YtdacanghbepjpaaGreatDoor
set_option linter.unusedSimpArgs false
set_option linter.unusedVariables false
set_option maxRecDepth 100000
open Go.RowKit Go.Maps
open Go.WideShapes Go.ChangeAt Go.Deep
open Go.ChangeShapes (open_ints)
open Dsk
structure SpBnd (x:Sp.Span):Prop where
 trace:-9223372036854775808≤x.trace∧x.trace≤9223372036854775807
 id:-9223372036854775808≤x.id∧x.id≤9223372036854775807
 parent:-9223372036854775808≤x.parent∧x.parent≤9223372036854775807
 start:-9223372036854775808≤x.start∧x.start≤9223372036854775807
 dur:-9223372036854775808≤x.dur∧x.dur≤9223372036854775807
 service:x.service.size≤maxLen
 host:x.host.size≤maxLen
 note:x.note.size≤maxLen
theorem sp_fields_size:(Tryz.prog.fieldsOf 47).size=8:=by kernel_rfl
theorem sp_fields:Go.Deep.oneCellFields Tryz.prog (Tryz.prog.fieldsOf 47)=true:=by kernel_rfl
theorem sp_under:Tryz.prog.underlying 47=some (.struct (Tryz.prog.fieldsOf 47)):=by kernel_rfl
theorem sp_cells:Tryz.prog.cellsOf 47=(Tryz.prog.fieldsOf 47).size:=by kernel_rfl
theorem sp_t0:((Tryz.prog.fieldsOf 47)[0]?).map (·.type)=some 3:=by kernel_rfl
theorem sp_t1:((Tryz.prog.fieldsOf 47)[1]?).map (·.type)=some 3:=by kernel_rfl
theorem sp_t2:((Tryz.prog.fieldsOf 47)[2]?).map (·.type)=some 3:=by kernel_rfl
theorem sp_t3:((Tryz.prog.fieldsOf 47)[3]?).map (·.type)=some 9:=by kernel_rfl
theorem sp_t4:((Tryz.prog.fieldsOf 47)[4]?).map (·.type)=some 9:=by kernel_rfl
theorem sp_t5:((Tryz.prog.fieldsOf 47)[5]?).map (·.type)=some 3:=by kernel_rfl
theorem sp_t6:((Tryz.prog.fieldsOf 47)[6]?).map (·.type)=some 3:=by kernel_rfl
theorem sp_t7:((Tryz.prog.fieldsOf 47)[7]?).map (·.type)=some 9:=by kernel_rfl
theorem hl_under_int:Tryz.prog.underlying 3=some (.int .i64):=by kernel_rfl
theorem hl_under_string:Tryz.prog.underlying 9=some .string:=by kernel_rfl
theorem hl_under_u8:Tryz.prog.underlying 5=some (.int .u8):=by kernel_rfl
section
variable {H:Type} {enc:TypeId×Value→H} {w:World} {base:Nat} {sp:Nat→Bool} {held:Bool}
theorem spOf {fuel:Nat} {cs:List Value} {y:DataW H×List MemPlace} (h:DataW.trod enc Tryz.prog w base sp held fuel 47 cs=some y):∃ x,cs=spRow x∧SpBnd x:=by
 obtain ⟨hl,n,hf⟩:=fieldsOf sp_under sp_fields sp_cells h
 rw [sp_fields_size] at hl
 obtain ⟨v0,y0,e0,h0⟩:=fieldVal hf 0 _ sp_t0
 obtain ⟨v1,y1,e1,h1⟩:=fieldVal hf 1 _ sp_t1
 obtain ⟨v2,y2,e2,h2⟩:=fieldVal hf 2 _ sp_t2
 obtain ⟨v3,y3,e3,h3⟩:=fieldVal hf 3 _ sp_t3
 obtain ⟨v4,y4,e4,h4⟩:=fieldVal hf 4 _ sp_t4
 obtain ⟨v5,y5,e5,h5⟩:=fieldVal hf 5 _ sp_t5
 obtain ⟨v6,y6,e6,h6⟩:=fieldVal hf 6 _ sp_t6
 obtain ⟨v7,y7,e7,h7⟩:=fieldVal hf 7 _ sp_t7
 obtain ⟨z0,k0,_,w0⟩:=DataW.trod_int hl_under_int h0
 obtain ⟨z1,k1,_,w1⟩:=DataW.trod_int hl_under_int h1
 obtain ⟨z2,k2,_,w2⟩:=DataW.trod_int hl_under_int h2
 obtain ⟨s3,k3,_,w3⟩:=DataW.trod_string hl_under_string h3
 obtain ⟨s4,k4,_,w4⟩:=DataW.trod_string hl_under_string h4
 obtain ⟨z5,k5,_,w5⟩:=DataW.trod_int hl_under_int h5
 obtain ⟨z6,k6,_,w6⟩:=DataW.trod_int hl_under_int h6
 obtain ⟨s7,k7,_,w7⟩:=DataW.trod_string hl_under_string h7
 simp at k0 k1 k2 k3 k4 k5 k6 k7
 subst k0 k1 k2 k3 k4 k5 k6 k7
 refine ⟨⟨z0,z1,z2,s3,s4,z5,z6,s7⟩,?_,⟨bounds_i64 w0,bounds_i64 w1,bounds_i64 w2,bounds_i64 w5,bounds_i64 w6,w3,w4,w7⟩⟩
 unfold spRow
 match cs,hl with
 | [c0,c1,c2,c3,c4,c5,c6,c7],_ => simp at e0 e1 e2 e3 e4 e5 e6 e7;rw [e0,e1,e2,e3,e4,e5,e6,e7]
theorem hk_u8:Tryz.prog.cellsOf 5=1:=by kernel_rfl
theorem hk_span:Tryz.prog.cellsOf 47=8:=by kernel_rfl
end
end Go.Proofs.YtdacanghbepjpaaGreatDoor
namespace Go.Proofs.YtdacanghbepjpaaGreatDoor
set_option linter.unusedSimpArgs false
set_option linter.unusedVariables false
set_option maxRecDepth 100000
open Go.RowKit Go.Maps
open Go.WideShapes Go.ChangeAt Go.Deep
open Dsk
structure DAct where
 kind:Nat
 s:Sp.Span
 n:Nat
 ah:Int
 af:Int
 an:Int
 data:ByteArray
def dactC (a:DAct):List Value:=[.int .u8 a.kind,.int .i64 a.s.trace,.int .i64 a.s.id,.int .i64 a.s.parent,.string a.s.service,.string a.s.host,.int .i64 a.s.start,.int .i64 a.s.dur,.string a.s.note,.int .u8 a.n,.int .i64 a.ah,.int .i64 a.af,.int .i64 a.an,.string a.data]
structure DActOk (a:DAct):Prop where
 kind:a.kind<256
 s:SpBnd a.s
 n:a.n<256
 ah:-9223372036854775808≤a.ah∧a.ah≤9223372036854775807
 af:-9223372036854775808≤a.af∧a.af≤9223372036854775807
 an:-9223372036854775808≤a.an∧a.an≤9223372036854775807
 data:a.data.size≤maxLen
def RdDA (w:World) (v:Value) (l:List DAct):Prop :=
 ∃ x c,v=.slice x l.length c∧∀ (j:Nat) (hj:j<l.length),DActOk l[j]∧∃ b off,x=some ⟨b,off,none⟩∧b<w.heap.size∧∀ i,i<14→w.cell? ⟨b,off+(j*14+i),none⟩=(dactC l[j])[i]?
theorem RdDA.below {w w':World} {v:Value} {l:List DAct} (h:RdDA w v l) (x:Below w.heap.size w w'):RdDA w' v l:=by
 obtain ⟨a,c,rfl,h⟩:=h
 refine ⟨a,c,rfl,fun j hj => ?_⟩
 obtain ⟨ho,b,off,e,hb,hc⟩:=h j hj
 refine ⟨ho,b,off,e,Nat.lt_of_lt_of_le hb x.size,fun i hi => ?_⟩
 rw [← hc i hi]
 exact x.cell (p:=⟨b,_,none⟩) hb
theorem dact_under:Tryz.prog.underlying 59=some (.struct (Tryz.prog.fieldsOf 59)):=by kernel_rfl
theorem dacts_under:Tryz.prog.underlying 55=some (.slice 59):=by kernel_rfl
theorem dact_cells:Tryz.prog.cellsOf 59=14:=by kernel_rfl
theorem dact_f0:((Tryz.prog.fieldsOf 59)[0]?).map (fun f => (f.type,f.offset))=some (5,0):=by kernel_rfl
theorem dact_f1:((Tryz.prog.fieldsOf 59)[1]?).map (fun f => (f.type,f.offset))=some (47,1):=by kernel_rfl
theorem dact_f2:((Tryz.prog.fieldsOf 59)[2]?).map (fun f => (f.type,f.offset))=some (5,9):=by kernel_rfl
theorem dact_f3:((Tryz.prog.fieldsOf 59)[3]?).map (fun f => (f.type,f.offset))=some (51,10):=by kernel_rfl
theorem dact_f4:((Tryz.prog.fieldsOf 59)[4]?).map (fun f => (f.type,f.offset))=some (9,13):=by kernel_rfl
theorem hk_ack:Tryz.prog.cellsOf 51=3:=by kernel_rfl
theorem hk_string:Tryz.prog.cellsOf 9=1:=by kernel_rfl
theorem ack_under:Tryz.prog.underlying 51=some (.struct (Tryz.prog.fieldsOf 51)):=by kernel_rfl
theorem ack_fields_size:(Tryz.prog.fieldsOf 51).size=3:=by kernel_rfl
theorem ack_fields:Go.Deep.oneCellFields Tryz.prog (Tryz.prog.fieldsOf 51)=true:=by kernel_rfl
theorem ack_cells:Tryz.prog.cellsOf 51=(Tryz.prog.fieldsOf 51).size:=by kernel_rfl
theorem ack_t0:((Tryz.prog.fieldsOf 51)[0]?).map (·.type)=some 3:=by kernel_rfl
theorem ack_t1:((Tryz.prog.fieldsOf 51)[1]?).map (·.type)=some 3:=by kernel_rfl
theorem ack_t2:((Tryz.prog.fieldsOf 51)[2]?).map (·.type)=some 3:=by kernel_rfl
section
variable {H:Type} {enc:TypeId×Value→H} {w:World} {base:Nat} {sp:Nat→Bool} {held:Bool}
theorem ackOf {fuel:Nat} {cs:List Value} {y:DataW H×List MemPlace} (h:DataW.trod enc Tryz.prog w base sp held fuel 51 cs=some y):∃ a b c:Int,cs=[.int .i64 a,.int .i64 b,.int .i64 c]∧(-9223372036854775808≤a∧a≤9223372036854775807)∧(-9223372036854775808≤b∧b≤9223372036854775807)∧(-9223372036854775808≤c∧c≤9223372036854775807):=by
 obtain ⟨hl,n,hf⟩:=fieldsOf ack_under ack_fields ack_cells h
 rw [ack_fields_size] at hl
 obtain ⟨v0,y0,e0,h0⟩:=fieldVal hf 0 _ ack_t0
 obtain ⟨v1,y1,e1,h1⟩:=fieldVal hf 1 _ ack_t1
 obtain ⟨v2,y2,e2,h2⟩:=fieldVal hf 2 _ ack_t2
 obtain ⟨z0,k0,_,w0⟩:=DataW.trod_int hl_under_int h0
 obtain ⟨z1,k1,_,w1⟩:=DataW.trod_int hl_under_int h1
 obtain ⟨z2,k2,_,w2⟩:=DataW.trod_int hl_under_int h2
 simp at k0 k1 k2
 subst k0 k1 k2
 refine ⟨z0,z1,z2,?_,bounds_i64 w0,bounds_i64 w1,bounds_i64 w2⟩
 match cs,hl with
 | [c0,c1,c2],_ => simp at e0 e1 e2;rw [e0,e1,e2]
theorem dactOf {fuel:Nat} {cs:List Value} {y:DataW H×List MemPlace} (h:DataW.trod enc Tryz.prog w base sp held fuel 59 cs=some y):∃ a,cs=dactC a∧DActOk a:=by
 obtain ⟨ys,n,_,_,hlen,hyl,hf⟩:=DataW.trod_struct dact_under h
 rw [dact_cells] at hlen
 match cs,hlen,hf with
 | [c0,c1,c2,c3,c4,c5,c6,c7,c8,c9,c10,c11,c12,c13],_,hf =>
  have fa:∀ (j:Nat) (t o k:Nat),((Tryz.prog.fieldsOf 59)[j]?).map (fun f => (f.type,f.offset))=some (t,o)→Tryz.prog.cellsOf t=k→∃ y,DataW.trod enc Tryz.prog w base sp held n t ((([c0,c1,c2,c3,c4,c5,c6,c7,c8,c9,c10,c11,c12,c13]:List Value).drop o).take k)=some y:=by
   intro j t o k hj hk
   obtain ⟨f,hfj,hto⟩:=Option.map_eq_some_iff.1 hj
   simp only [Prod.mk.injEq] at hto
   obtain ⟨rfl,rfl⟩:=hto
   have h1:=hf j f hfj
   rw [hk] at h1
   have hjl:j<(Tryz.prog.fieldsOf 59).size:=(Array.getElem?_eq_some_iff.1 hfj).1
   rw [List.getElem?_eq_getElem (show j<ys.length by omega)] at h1
   exact ⟨_,h1⟩
  obtain ⟨y0,h0⟩:=fa 0 _ _ _ dact_f0 hk_u8
  obtain ⟨y1,h1⟩:=fa 1 _ _ _ dact_f1 hk_span
  obtain ⟨y2,h2⟩:=fa 2 _ _ _ dact_f2 hk_u8
  obtain ⟨y3,h3⟩:=fa 3 _ _ _ dact_f3 hk_ack
  obtain ⟨y4,h4⟩:=fa 4 _ _ _ dact_f4 hk_string
  simp at h0 h1 h2 h3 h4
  obtain ⟨k,hk,_,w0⟩:=DataW.trod_int hl_under_u8 h0
  obtain ⟨x,hx,hxb⟩:=spOf h1
  obtain ⟨m,hm,_,w2⟩:=DataW.trod_int hl_under_u8 h2
  obtain ⟨p,q,r,hpq,g1,g2,g3⟩:=ackOf h3
  obtain ⟨z,hz,_,w4⟩:=DataW.trod_string hl_under_string h4
  simp [spRow] at hk hx hm hpq hz
  obtain ⟨rfl,rfl,rfl,rfl,rfl,rfl,rfl,rfl⟩:=hx
  obtain ⟨rfl,rfl,rfl⟩:=hpq
  subst hk hm hz
  have b0:=bounds_u8 w0
  have b2:=bounds_u8 w2
  refine ⟨⟨k.toNat,x,m.toNat,p,q,r,z⟩,?_,⟨by show k.toNat<256;omega,hxb,by show m.toNat<256;omega,g1,g2,g3,w4⟩⟩
  unfold dactC
  have ek:((k.toNat:Nat):Int)=k:=Int.toNat_of_nonneg b0.1
  have em:((m.toNat:Nat):Int)=m:=Int.toNat_of_nonneg b2.1
  rw [ek,em]
def DActsIn (w:World) (x:Value×List DAct):Prop:=RdDA w x.1 x.2∧x.2.length≤maxLen
theorem openDActs {r:Reach} {b0:Nat} {v:Value} {d:DataW H} {p:List MemPlace} (hv:Value.okWide Tryz.prog w r b0 55 v) (h:DataW.Trod enc Tryz.prog w base sp held 55 v d p) :
  ∃ a:Value×List DAct,v=a.1∧DActsIn w a:=by
 obtain ⟨a0,len,cap,rfl⟩:=okWide_slice dacts_under hv
 obtain ⟨fuel,hf⟩:=h
 have hf2:DataW.trod enc Tryz.prog w base sp held fuel 55 [.slice a0 len cap]=some (d,p):=by simpa [Value.cells] using hf
 rcases Go.Deep.open_slice dacts_under hf2 with ⟨h0,_⟩ | ⟨a',len',cap',m,n,D,Pl,hcs,hb,hl,hm,hmm,hx,hi⟩
 · simp at h0
   obtain ⟨rfl,rfl,rfl⟩:=h0
   exact ⟨(_,[]),rfl,⟨none,0,rfl,fun j hj => absurd hj (by simp)⟩,Nat.zero_le _⟩
 · simp at hcs
   obtain ⟨rfl,rfl,rfl⟩:=hcs
   have e0:∀ x:Addr,x.add 0=x:=fun x => by unfold Addr.add;simp
   have hex:∀ i:Fin len,∃ a:DAct,DActOk a∧∃ b off,a'=⟨b,off,none⟩∧b<w.heap.size∧∀ j,j<14→w.cell? ⟨b,off+(i*14+j),none⟩=(dactC a)[j]?:=fun i => by
    obtain ⟨cs',hc,htr⟩:=hi i (by rw [hmm];split <;> omega)
    rw [dact_cells] at hc
    obtain ⟨_,hcl,hat⟩:=World.cells?_some hc
    obtain ⟨a,rfl,ho⟩:=dactOf htr
    obtain ⟨cs0,hc0,_⟩:=hi 0 (by have:=i.2;rw [hmm];split <;> omega)
    rw [dact_cells,Nat.zero_mul] at hc0
    obtain ⟨_,hcl0,hat0⟩:=World.cells?_some hc0
    have h0:=hat0 0 (by omega)
    rw [List.getElem?_eq_getElem (show 0<cs0.length by omega),e0,e0] at h0
    obtain ⟨b,off,spot⟩:=a'
    have hspot:spot=none:=World.cell?_spot h0
    subst hspot
    have ea:∀ j,(((⟨b,off,none⟩:Addr).add (i*14)).add j)=⟨b,off+(i*14+j),none⟩:=fun j => by
     rw [add_none,add_none,Nat.add_assoc]
    refine ⟨a,ho,b,off,rfl,?_,fun j hj => by rw [← ea j];exact hat j hj⟩
    rcases Nat.lt_or_ge b w.heap.size with hlt | hge
    · exact hlt
    · simp [World.cell?,Array.getElem?_eq_none hge] at h0
   obtain ⟨f,hf⟩:=Classical.axiomOfChoice hex
   refine ⟨(.slice (some a') len cap,List.ofFn f),rfl,⟨some a',cap,by simp,fun j hj => ?_⟩,by simp;omega⟩
   have hj':j<len:=by simpa using hj
   obtain ⟨h1,b,off,h2,h3,h4⟩:=hf ⟨j,hj'⟩
   simp only [List.getElem_ofFn]
   exact ⟨h1,b,off,by rw [h2],h3,h4⟩
end
theorem dact_load {w:World} {b off:Nat} {a:DAct} (hc:∀ i,i<14→w.cell? ⟨b,off+i,none⟩=(dactC a)[i]?) :
  w.cell? ⟨b,off,none⟩=some (.int .u8 a.kind)∧w.cell? ⟨b,off+1,none⟩=some (.int .i64 a.s.trace)∧w.cell? ⟨b,off+2,none⟩=some (.int .i64 a.s.id)∧w.cell? ⟨b,off+3,none⟩=some (.int .i64 a.s.parent) ∧
  w.cell? ⟨b,off+4,none⟩=some (.string a.s.service)∧w.cell? ⟨b,off+5,none⟩=some (.string a.s.host)∧w.cell? ⟨b,off+6,none⟩=some (.int .i64 a.s.start)∧w.cell? ⟨b,off+7,none⟩=some (.int .i64 a.s.dur) ∧
  w.cell? ⟨b,off+8,none⟩=some (.string a.s.note)∧w.cell? ⟨b,off+9,none⟩=some (.int .u8 a.n)∧w.cell? ⟨b,off+10,none⟩=some (.int .i64 a.ah)∧w.cell? ⟨b,off+11,none⟩=some (.int .i64 a.af)∧w.cell? ⟨b,off+12,none⟩=some (.int .i64 a.an)∧w.cell? ⟨b,off+13,none⟩=some (.string a.data) :=
 ⟨hc 0 (by omega),hc 1 (by omega),hc 2 (by omega),hc 3 (by omega),hc 4 (by omega),hc 5 (by omega),hc 6 (by omega),hc 7 (by omega),hc 8 (by omega),hc 9 (by omega),hc 10 (by omega),hc 11 (by omega),hc 12 (by omega),hc 13 (by omega)⟩
end Go.Proofs.YtdacanghbepjpaaGreatDoor
namespace Go.Proofs.YtdacanghbepjpaaGreatDoor
set_option linter.unusedSimpArgs false
set_option linter.unusedVariables false
set_option maxRecDepth 100000
open Go.RowKit Go.Maps
open Dsk
def ndVs (bd j jx:Nat):Array Value:=#[.pointer (some ⟨bd,0,none⟩),.pointer (some ⟨j,0,none⟩),.pointer (some ⟨jx,0,none⟩)]
structure ND (w0:World) (P:Nat→Prop) (W:World) (jn bd j jx:Nat) (d:Dk) (h:Hl) (x:Dm):Prop where
 na:NA w0 P W bd j jx d h x
 blk:Blk W jn 43 (ndVs bd j jx)
 out:¬ P jn
 new:w0.heap.size≤jn
def NDA (w0:World) (P:Nat→Prop) (w:World) (jn bd j jx:Nat) (d':Dk) (h':Hl) (x':Dm) (w':World):Prop:=∃ P',Gr P P' w∧ND w0 P' w' jn bd j jx d' h' x'∧Chg P w w'
section
variable {w0 w w' w2:World} {P P' Q S:Nat→Prop} {jn bd j jx:Nat} {d d' d2:Dk} {h h' h2:Hl} {x x' x2:Dm} {s:Nat} {l:List Sg} {t:Str} {dr:Files}
theorem ND.acted (n:ND w0 P w jn bd j jx d h x) (a:Acted w0 P w bd j jx d' h' x' w'):NDA w0 P w jn bd j jx d' h' x' w':=by
 obtain ⟨P',h1,h2,h3⟩:=a
 exact ⟨P',h1,⟨h2,n.blk.chg h3 n.out,h1.not n.blk.lt n.out,n.new⟩,h3⟩
theorem ND.below (n:ND w0 P w jn bd j jx d h x) (y:Below w.heap.size w w'):ND w0 P w' jn bd j jx d h x:=⟨n.na.below y,n.blk.below y,n.out,n.new⟩
theorem NDA.same (n:ND w0 P w jn bd j jx d h x) (y:Below w.heap.size w w'):NDA w0 P w jn bd j jx d h x w':=⟨P,Gr.refl _ _,n.below y,Chg.of_below y⟩
theorem ND.cells (n:ND w0 P w jn bd j jx d h x):w.cell? ⟨jn,0,none⟩=some (.pointer (some ⟨bd,0,none⟩))∧w.cell? ⟨jn,1,none⟩=some (.pointer (some ⟨j,0,none⟩))∧w.cell? ⟨jn,2,none⟩=some (.pointer (some ⟨jx,0,none⟩)) :=
 ⟨n.blk.cell 0,n.blk.cell 1,n.blk.cell 2⟩
theorem NDA.after {w1:World} (hg:Gr P P' w) (hc:Chg P w w1) (n:NDA w0 P' w1 jn bd j jx d' h' x' w'):NDA w0 P w jn bd j jx d' h' x' w':=by
 obtain ⟨P2,h1,h2,h3⟩:=n
 exact ⟨P2,hg.trans hc.size h1,h2,Chg.thenOn hc h3 fun i hi e => by
  rcases hg i e with e | e
  · exact e
  · omega⟩
theorem NDA.pre (y:Below w.heap.size w w') (hU:∀ k,P k→k<w.heap.size) (n:NDA w0 P w' jn bd j jx d' h' x' w2):NDA w0 P w jn bd j jx d' h' x' w2:=NDA.after (Gr.refl _ _) (Chg.of_below y) n
theorem ND.other (n:ND w0 P w jn bd j jx d h x) (c:Chg S w w') (hS:∀ k,k<w.heap.size→S k→w0.heap.size≤k∧¬ P k∧k≠jn):ND w0 P w' jn bd j jx d h x :=
 ⟨n.na.other c fun k hk e => ⟨(hS k hk e).1,(hS k hk e).2.1⟩,n.blk.chg c fun e => (hS jn n.blk.lt e).2.2 rfl,n.out,n.new⟩
set_option maxHeartbeats 2000000 in
theorem node_open {u1 u2:Option Addr} (n:DA w0 P w bd d) (hk:Blk w jn 43 #[.pointer (some ⟨bd,0,none⟩),.pointer u1,.pointer u2]) (ho:¬ P jn) (hn:w0.heap.size≤jn)
  (HO:Calls Tryz.prog 101 #[.pointer (some ⟨bd,0,none⟩)] w fun e w' => ∃ j',e=.returned (.tuple #[.pointer (some ⟨j',0,none⟩),.int .i64 0])∧∃ P',Gr P P' w∧LA w0 P' w' bd j' d' h'∧Chg P w w') (host:Int) (hh:Po.HostOk host) {a b:Int} (hl:loadD d'=((a,b),0)) :
  Calls Tryz.prog 39 #[.pointer (some ⟨jn,0,none⟩),.int .i64 host] w fun e w' => e=.returned (.bool true)∧∃ j jx P',Gr P P' w∧ND w0 P' w' jn bd j jx d' h' ⟨host,a,b,noB,0,0⟩∧Chg (fun k => P k∨k=jn) w w':=by
 have HOP:=Lib.hid HO
 have k0:=hk.cell 0
 simp only [List.getElem?_toArray,List.getElem?_cons_zero,List.getElem?_cons_succ] at k0
 have HK:=Lib.hid hk
 have HN:=Lib.hid n
 clear HO n hk
 go_enter Tryz.func39,Tryz.ntmps39
 go_wp2_with fail
 refine HOP.out.mono ?_
 rintro e w1 ⟨j1,rfl,P1,hg1,hla,hc1⟩
 have hk1:=HK.out.chg hc1 ho
 have ho1:=hg1.not HK.out.lt ho
 have k0:=hk1.cell 0
 simp only [List.getElem?_toArray,List.getElem?_cons_zero,List.getElem?_cons_succ] at k0
 have hld:(loadD d').2=0:=by rw [hl]
 have HDO:=Lib.hid (hla.daemon host hh hld)
 rw [hl] at HDO
 have HK1:=Lib.hid hk1
 have HG1:=Lib.hid hg1
 have HC1:=Lib.hid hc1
 have HO1:=Lib.hid ho1
 have HHO:=Lib.hid ho
 clear HOP hk1 hg1 hla hc1 hld hl ho1 ho
 go_wp2_with fail
 refine HDO.out.mono ?_
 rintro e w2 ⟨jx,rfl,hq,hna,hb2⟩
 have hk2:=HK1.out.below hb2
 have f1:=hk2.free 1
 have f2:=hk2.free 2
 have c1:=hk2.cell 1
 have c2:=hk2.cell 2
 simp only [List.getElem?_toArray,List.getElem?_cons_zero,List.getElem?_cons_succ] at c1 c2
 have hk3:=(hk2.set 1 (.pointer (some ⟨j1,0,none⟩))).set 2 (.pointer (some ⟨jx,0,none⟩))
 simp only [List.setIfInBounds_toArray,List.set_cons_zero,List.set_cons_succ] at hk3
 have hc3:Chg (fun k => k=jn) w2 ((w2.setCell ⟨jn,1,none⟩ (.pointer (some ⟨j1,0,none⟩))).setCell ⟨jn,2,none⟩ (.pointer (some ⟨jx,0,none⟩))):=((Chg.refl (fun k => k=jn) w2).setCell (p:=⟨jn,_,none⟩) (fun _ => rfl) _).setCell (p:=⟨jn,_,none⟩) (fun _ => rfl) _
 have hjn:¬ (P1 jn∨jn=jx):=fun e => e.elim HO1.out fun e => by have:=HK1.out.lt;omega
 have HND:=Lib.hid (show ND w0 _ _ jn bd j1 jx d' h' ⟨host,a,b,noB,0,0⟩ from ⟨hna.other hc3 (by rintro k _ rfl;exact ⟨hn,hjn⟩),hk3,hjn,hn⟩)
 have HCH:=Lib.hid (show Chg (fun k => P k∨k=jn) w _ from Chg.thenOn (Chg.thenOn (Chg.mono HC1.out fun _ _ e => .inl e) (Chg.of_below (S:=fun _ => False) hb2) (fun _ _ e => e.elim)) hc3 fun i _ e => .inr e)
 have HGR:=Lib.hid (show Gr P (fun k => P1 k∨k=jx) w from fun k e => by
  rcases e with e | e
  · exact HG1.out k e
  · have:=HC1.out.size;exact .inr (by omega))
 clear hna hb2 hk2 hk3 hc3 hjn HK1 HDO HG1 HC1 HO1 HHO HK HN hq
 go_wp2_with fail
 go_ret
 exact ⟨rfl,j1,jx,_,HGR.out,HND.out,HCH.out⟩
theorem Dk.new_load (c:Nat):loadD (Dk.new c)=((0,0),0):=by
 unfold loadD
 have e:(Dk.new c).read curN=([],4):=rfl
 rw [e,if_pos rfl]
set_option maxHeartbeats 2000000 in
theorem begun_any (host:Int) (hh:Po.HostOk host) (w:World) :
  Calls Tryz.prog 18 #[.int .i64 host] w fun e w' => ∃ jn,e=.returned (.pointer (some ⟨jn,0,none⟩))∧∃ bd j jx P,ND w P w' jn bd j jx (Dk.new 1048576) ⟨0,false,[]⟩ ⟨host,0,0,noB,0,0⟩:=by
 have HD:=Lib.hid (DA.new 1048576 w (by decide) (by decide))
 have hcst:((1048576:Nat):Int)=1048576:=rfl
 rw [hcst] at HD
 have HH:=Lib.hid hh
 clear hcst hh
 go_enter Tryz.func18,Tryz.ntmps18
 go_wp2_with fail
 refine HD.out.mono ?_
 rintro e w1 ⟨bd,rfl,hd⟩
 obtain ⟨jn,hjn⟩:∃ q,q=w1.heap.size:=⟨_,rfl⟩
 obtain ⟨w2,hw2⟩:∃ y,y=w1.alloc (.cells #[.pointer (some ⟨bd,0,none⟩),.pointer none,.pointer none] 43 (0,0)):=⟨_,rfl⟩
 have hb2:Below w1.heap.size w1 w2:=by rw [hw2];exact (Below.refl _ _).alloc (Nat.le_refl _) _
 have hk2:Blk w2 jn 43 #[.pointer (some ⟨bd,0,none⟩),.pointer none,.pointer none]:=by rw [hw2,hjn];exact Blk.alloc_new w1 _ _
 have hd2:=hd.below hb2
 have HOP:=Lib.hid (node_open (jn:=jn) hd2 hk2 (fun e => by have:=e.2;omega) (by rw [hjn];exact hd.base.size) (hd2.openNew rfl rfl) host HH.out (Dk.new_load _))
 have HW2:=Lib.hid hw2
 have HJN:=Lib.hid hjn
 clear hd hd2 hb2 hk2 hw2 hjn HD
 go_wp2_with fail
 rw [← HW2.out,← HJN.out]
 refine HOP.out.mono ?_
 rintro e w3 ⟨rfl,j,jx,P',_,hnd,_⟩
 have HND:=Lib.hid hnd
 clear hnd HOP
 go_wp2_with fail
 go_ret
 exact ⟨jn,rfl,bd,j,jx,P',HND.out⟩
/-! ### what is written -/
def wrP (k n:Nat) (y:Sp.Span) (d:Dk) (h:Hl):Int×Hl×Dk :=
 if k % 9=0∨k % 9=1 then appP d h y else if k % 9=2 then syncP d h else if k % 9=3 then rotP d h else if k % 9=4 then retP (1+((n % 4:Nat):Int)) d h else (0,h,d)
theorem NA.lt (n:NA w0 P w bd j jx d h x):∀ k,P k→k<w.heap.size:=by obtain ⟨_,_,_,_,h⟩:=n;exact h
set_option maxHeartbeats 4000000 in
theorem writes_any (n:ND w0 P w jn bd j jx d h x) (he:LEnv w0) (p:NodeP d h s x) (hn:nextOf h.l≤900000000) (a:DAct) (ha:DActOk a) :
  Calls Tryz.prog 25 #[.pointer (some ⟨jn,0,none⟩),.agg (dactC a).toArray] w fun e w' => e=.returned (.bool (decide (a.kind % 9<5)))∧NDA w0 P w jn bd j jx (wrP a.kind a.n a.s d h).2.2 (wrP a.kind a.n a.s d h).2.1 x w':=by
 obtain ⟨q,hq⟩:∃ q,q=w.heap.size:=⟨_,rfl⟩
 obtain ⟨w1,hw1⟩:∃ w1,w1=w.alloc (.cells (dactC a).toArray 59 (0,0)):=⟨_,rfl⟩
 have hb1:Below w.heap.size w w1:=by rw [hw1];exact (Below.refl _ _).alloc (Nat.le_refl _) _
 have hk1:Blk w1 q 59 (dactC a).toArray:=by rw [hw1,hq];exact Blk.alloc_new w _ _
 have hqP:¬ P q:=fun e => by have:=n.na.lt q e;omega
 have n1:=n.below hb1
 obtain ⟨W,hW⟩:∃ W,W=wrP a.kind a.n a.s d h:=⟨_,rfl⟩
 rw [← hW]
 unfold wrP at hW
 have hcell:∀ w',Chg P w1 w'→Blk w' q 59 (dactC a).toArray:=fun w' c => hk1.chg c hqP
 have HN1:=Lib.hid n1
 have HCL:=Lib.hid hcell
 have HPRE:=Lib.hid (fun (d':Dk) (h':Hl) (W':World) (g:NDA w0 P w1 jn bd j jx d' h' x W') => NDA.pre hb1 n.na.lt g)
 have HQP:=Lib.hid hqP
 have HSAME:=Lib.hid (NDA.same n hb1)
 have HWW:=Lib.hid hW
 have HW1:=Lib.hid hw1
 have HQ:=Lib.hid hq
 have HAPP:=Lib.hid (fun (y:World) (hy:Below w1.heap.size w1 y) => (n1.na.below hy).app he p hn a.s ha.s.service ha.s.host ha.s.note)
 have HSYN:=Lib.hid (n1.na.sync he p hn)
 have HROT:=Lib.hid (n1.na.rot he p hn)
 have HRET:=Lib.hid (fun (y:World) (hy:Below w1.heap.size w1 y) => (n1.na.below hy).ret he p hn (1+((a.n % 4:Nat):Int)))
 obtain ⟨c0,c1,c2⟩:=n1.cells
 have hkd:=ha.kind
 have hnn:=ha.n
 clear n n1 hk1 hb1 hqP hcell hW hw1 hq ha p hn
 obtain ⟨kd,⟨zt,zi,zp,zs,zh,za,zd,zn⟩,an,aa,af,ab,adt⟩:=a
 unfold dactC at HCL HW1 ⊢
 unfold spV at HAPP
 simp only at *
 obtain ⟨km,hkm9⟩:∃ km:Int,km=(kd:Int).tmod 9:=⟨_,rfl⟩
 have hkm0:0≤km∧km<9:=by rw [hkm9,Int.tmod_eq_emod_of_nonneg (by omega)];omega
 have hkmn:km=((kd % 9:Nat):Int):=by rw [hkm9,Int.tmod_eq_emod_of_nonneg (by omega)];omega
 have hkmw:IntKind.u8.wrap km=km:=by
  have:IntKind.u8.wrap km=km % 256:=rfl
  rw [this];omega
 have hcs:km=0∨km=1∨km=2∨km=3∨km=4∨(km≠0∧km≠1∧km≠2∧km≠3∧km≠4):=by omega
 have hkm10:=hkm9.symm
 have HKM:=Lib.hid hkmn
 clear hkm9 hkmn
 obtain ⟨k0,k1,k2,k3,k4,k5,k6,k7,k8,k9⟩:w1.cell? ⟨q,0,none⟩=some (.int .u8 kd)∧w1.cell? ⟨q,1,none⟩=some (.int .i64 zt)∧w1.cell? ⟨q,2,none⟩=some (.int .i64 zi)∧w1.cell? ⟨q,3,none⟩=some (.int .i64 zp)∧w1.cell? ⟨q,4,none⟩=some (.string zs)∧w1.cell? ⟨q,5,none⟩=some (.string zh)∧w1.cell? ⟨q,6,none⟩=some (.int .i64 za)∧w1.cell? ⟨q,7,none⟩=some (.int .i64 zd)∧w1.cell? ⟨q,8,none⟩=some (.string zn)∧w1.cell? ⟨q,9,none⟩=some (.int .u8 an):=by
  have hk:=HCL.out w1 (Chg.refl _ _)
  exact ⟨hk.cell 0,hk.cell 1,hk.cell 2,hk.cell 3,hk.cell 4,hk.cell 5,hk.cell 6,hk.cell 7,hk.cell 8,hk.cell 9⟩
 rcases hcs with rfl | rfl | rfl | rfl | rfl | ⟨n0,n1,n2,n3,n4⟩
 · skip
   have hdd:decide (kd % 9<5)=true:=decide_eq_true (by have:=HKM.out;omega)
   rw [hdd]
   have hww:=HWW.out
   rw [if_pos (by have:=HKM.out;omega)] at hww
   rw [← hww] at HAPP
   clear hdd HWW hww
   go_enter Tryz.func25,Tryz.ntmps25
   go_wp2_with fail
   rw [← HW1.out,← HQ.out]
   obtain ⟨w2,hw2⟩:∃ w2,w2=w1.drew:=⟨_,rfl⟩
   have hb2:Below w1.heap.size w1 w2:=by rw [hw2];exact (Below.refl _ _).drew
   have n2:=HN1.out.below hb2
   obtain ⟨c0,c1,c2⟩:=n2.cells
   have hkk:=HCL.out w2 (Chg.of_below hb2)
   have hT:w2.cell? ⟨jn,1,none⟩=some (.pointer (some ⟨j,0,none⟩))∧w2.cell? ⟨q,1,none⟩=some (.int .i64 zt)∧w2.cell? ⟨q,2,none⟩=some (.int .i64 zi)∧w2.cell? ⟨q,3,none⟩=some (.int .i64 zp)∧w2.cell? ⟨q,4,none⟩=some (.string zs)∧w2.cell? ⟨q,5,none⟩=some (.string zh)∧w2.cell? ⟨q,6,none⟩=some (.int .i64 za)∧w2.cell? ⟨q,7,none⟩=some (.int .i64 zd)∧w2.cell? ⟨q,8,none⟩=some (.string zn) :=
    ⟨c1,hkk.cell 1,hkk.cell 2,hkk.cell 3,hkk.cell 4,hkk.cell 5,hkk.cell 6,hkk.cell 7,hkk.cell 8⟩
   have hS:True:=trivial
   have HAP:=Lib.hid (HAPP.out w2 hb2)
   have HN2:=Lib.hid n2
   have HB2:=Lib.hid hb2
   clear n2 hkk HAPP hb2
   go_wp2_with fail
   refine wp_region_two (T:=fun W => W.cell? ⟨jn,1,none⟩=some (.pointer (some ⟨j,0,none⟩))∧W.cell? ⟨q,1,none⟩=some (.int .i64 zt)∧W.cell? ⟨q,2,none⟩=some (.int .i64 zi)∧W.cell? ⟨q,3,none⟩=some (.int .i64 zp)∧W.cell? ⟨q,4,none⟩=some (.string zs)∧W.cell? ⟨q,5,none⟩=some (.string zh)∧W.cell? ⟨q,6,none⟩=some (.int .i64 za)∧W.cell? ⟨q,7,none⟩=some (.int .i64 zd)∧W.cell? ⟨q,8,none⟩=some (.string zn)) (S:=fun _ => True) (n:=99) (by kernel_rfl) ?_
   rw [← hw2]
   clear hw2 c0 c1 c2
   refine tk 0 11 hT hS ?_
   refine tk 1 12 hT hS ?_
   try simp only [xq]
   refine tk 2 13 hT hS ?_
   refine tk 3 14 hT hS ?_
   try simp only [xq]
   refine tk 4 15 hT hS ?_
   refine tk 5 16 hT hS ?_
   try simp only [xq]
   refine two_one 6 rfl (by kernel_rfl) ?_
   intro K hK
   go_simp
   refine HAP.out.mono ?_
   rintro e w3 ⟨rfl,hp⟩
   have hnd:=HN2.out.acted hp
   have hT1:w3.cell? ⟨jn,1,none⟩=some (.pointer (some ⟨j,0,none⟩))∧w3.cell? ⟨q,1,none⟩=some (.int .i64 zt)∧w3.cell? ⟨q,2,none⟩=some (.int .i64 zi)∧w3.cell? ⟨q,3,none⟩=some (.int .i64 zp)∧w3.cell? ⟨q,4,none⟩=some (.string zs)∧w3.cell? ⟨q,5,none⟩=some (.string zh)∧w3.cell? ⟨q,6,none⟩=some (.int .i64 za)∧w3.cell? ⟨q,7,none⟩=some (.int .i64 zd)∧w3.cell? ⟨q,8,none⟩=some (.string zn):=by
    obtain ⟨P2,_,n3,hc3⟩:=hnd
    have hkk:=HCL.out w3 ((Chg.of_below HB2.out).trans hc3)
    exact ⟨n3.cells.2.1,hkk.cell 1,hkk.cell 2,hkk.cell 3,hkk.cell 4,hkk.cell 5,hkk.cell 6,hkk.cell 7,hkk.cell 8⟩
   have HP:=Lib.hid (HPRE.out _ _ _ (NDA.after (Gr.refl _ _) (Chg.of_below HB2.out) hnd))
   refine hK.out _ _ hT1 (fun _ _ => hS) ?_
   clear hK K hp hnd HAP hT hT1
   try simp only [xq]
   refine two_done (by kernel_rfl) ?_ _
   go_wp2_with fail
   go_ret
   exact ⟨rfl,HP.out⟩
 · skip
   have hdd:decide (kd % 9<5)=true:=decide_eq_true (by have:=HKM.out;omega)
   rw [hdd]
   have hww:=HWW.out
   rw [if_pos (by have:=HKM.out;omega)] at hww
   rw [← hww] at HAPP
   clear hdd HWW hww
   go_enter Tryz.func25,Tryz.ntmps25
   go_wp2_with fail
   rw [← HW1.out,← HQ.out]
   obtain ⟨w2,hw2⟩:∃ w2,w2=w1.drew:=⟨_,rfl⟩
   have hb2:Below w1.heap.size w1 w2:=by rw [hw2];exact (Below.refl _ _).drew
   have n2:=HN1.out.below hb2
   obtain ⟨c0,c1,c2⟩:=n2.cells
   have hkk:=HCL.out w2 (Chg.of_below hb2)
   have hT:w2.cell? ⟨jn,1,none⟩=some (.pointer (some ⟨j,0,none⟩))∧w2.cell? ⟨q,1,none⟩=some (.int .i64 zt)∧w2.cell? ⟨q,2,none⟩=some (.int .i64 zi)∧w2.cell? ⟨q,3,none⟩=some (.int .i64 zp)∧w2.cell? ⟨q,4,none⟩=some (.string zs)∧w2.cell? ⟨q,5,none⟩=some (.string zh)∧w2.cell? ⟨q,6,none⟩=some (.int .i64 za)∧w2.cell? ⟨q,7,none⟩=some (.int .i64 zd)∧w2.cell? ⟨q,8,none⟩=some (.string zn) :=
    ⟨c1,hkk.cell 1,hkk.cell 2,hkk.cell 3,hkk.cell 4,hkk.cell 5,hkk.cell 6,hkk.cell 7,hkk.cell 8⟩
   have hS:True:=trivial
   have HAP:=Lib.hid (HAPP.out w2 hb2)
   have HN2:=Lib.hid n2
   have HB2:=Lib.hid hb2
   clear n2 hkk HAPP hb2
   go_wp2_with fail
   refine wp_region_two (T:=fun W => W.cell? ⟨jn,1,none⟩=some (.pointer (some ⟨j,0,none⟩))∧W.cell? ⟨q,1,none⟩=some (.int .i64 zt)∧W.cell? ⟨q,2,none⟩=some (.int .i64 zi)∧W.cell? ⟨q,3,none⟩=some (.int .i64 zp)∧W.cell? ⟨q,4,none⟩=some (.string zs)∧W.cell? ⟨q,5,none⟩=some (.string zh)∧W.cell? ⟨q,6,none⟩=some (.int .i64 za)∧W.cell? ⟨q,7,none⟩=some (.int .i64 zd)∧W.cell? ⟨q,8,none⟩=some (.string zn)) (S:=fun _ => True) (n:=99) (by kernel_rfl) ?_
   rw [← hw2]
   clear hw2 c0 c1 c2
   refine tk 0 11 hT hS ?_
   refine tk 1 12 hT hS ?_
   try simp only [xq]
   refine tk 2 13 hT hS ?_
   refine tk 3 14 hT hS ?_
   try simp only [xq]
   refine tk 4 15 hT hS ?_
   refine tk 5 16 hT hS ?_
   try simp only [xq]
   refine two_one 6 rfl (by kernel_rfl) ?_
   intro K hK
   go_simp
   refine HAP.out.mono ?_
   rintro e w3 ⟨rfl,hp⟩
   have hnd:=HN2.out.acted hp
   have hT1:w3.cell? ⟨jn,1,none⟩=some (.pointer (some ⟨j,0,none⟩))∧w3.cell? ⟨q,1,none⟩=some (.int .i64 zt)∧w3.cell? ⟨q,2,none⟩=some (.int .i64 zi)∧w3.cell? ⟨q,3,none⟩=some (.int .i64 zp)∧w3.cell? ⟨q,4,none⟩=some (.string zs)∧w3.cell? ⟨q,5,none⟩=some (.string zh)∧w3.cell? ⟨q,6,none⟩=some (.int .i64 za)∧w3.cell? ⟨q,7,none⟩=some (.int .i64 zd)∧w3.cell? ⟨q,8,none⟩=some (.string zn):=by
    obtain ⟨P2,_,n3,hc3⟩:=hnd
    have hkk:=HCL.out w3 ((Chg.of_below HB2.out).trans hc3)
    exact ⟨n3.cells.2.1,hkk.cell 1,hkk.cell 2,hkk.cell 3,hkk.cell 4,hkk.cell 5,hkk.cell 6,hkk.cell 7,hkk.cell 8⟩
   have HP:=Lib.hid (HPRE.out _ _ _ (NDA.after (Gr.refl _ _) (Chg.of_below HB2.out) hnd))
   refine hK.out _ _ hT1 (fun _ _ => hS) ?_
   clear hK K hp hnd HAP hT hT1
   try simp only [xq]
   refine two_done (by kernel_rfl) ?_ _
   go_wp2_with fail
   go_ret
   exact ⟨rfl,HP.out⟩
 · have hdd:decide (kd % 9<5)=true:=decide_eq_true (by have:=HKM.out;omega)
   rw [hdd]
   have hww:=HWW.out
   rw [if_neg (by have:=HKM.out;omega),if_pos (by have:=HKM.out;omega)] at hww
   rw [← hww] at HSYN
   clear hdd HWW hww
   have c1w:=c1
   rw [HW1.out] at c1w
   go_enter Tryz.func25,Tryz.ntmps25
   go_wp2_with fail
   rw [← HW1.out,← HQ.out]
   clear c1w
   refine HSYN.out.mono ?_
   rintro e w2 ⟨rfl,hp⟩
   have HP:=Lib.hid (HPRE.out _ _ _ (HN1.out.acted hp))
   clear hp
   go_wp2_with fail
   go_ret
   exact ⟨rfl,HP.out⟩
 · have hdd:decide (kd % 9<5)=true:=decide_eq_true (by have:=HKM.out;omega)
   rw [hdd]
   have hww:=HWW.out
   rw [if_neg (by have:=HKM.out;omega),if_neg (by have:=HKM.out;omega),if_pos (by have:=HKM.out;omega)] at hww
   rw [← hww] at HROT
   clear hdd HWW hww
   have c1w:=c1
   rw [HW1.out] at c1w
   go_enter Tryz.func25,Tryz.ntmps25
   go_wp2_with fail
   rw [← HW1.out,← HQ.out]
   clear c1w
   refine HROT.out.mono ?_
   rintro e w2 ⟨rfl,hp⟩
   have HP:=Lib.hid (HPRE.out _ _ _ (HN1.out.acted hp))
   clear hp
   go_wp2_with fail
   go_ret
   exact ⟨rfl,HP.out⟩
 · skip
   have hdd:decide (kd % 9<5)=true:=decide_eq_true (by have:=HKM.out;omega)
   rw [hdd]
   have hww:=HWW.out
   rw [if_neg (by have:=HKM.out;omega),if_neg (by have:=HKM.out;omega),if_neg (by have:=HKM.out;omega),if_pos (by have:=HKM.out;omega)] at hww
   rw [← hww] at HRET
   obtain ⟨m,hm⟩:∃ m,m=an % 4:=⟨_,rfl⟩
   rw [← hm] at HRET
   have hm4:m<4:=by omega
   have ht4:(an:Int).tmod 4=m:=by rw [Int.tmod_eq_emod_of_nonneg (by omega)];omega
   have hwa:IntKind.i64.wrap (an:Int)=an:=by rw [IntKind.wrap_i64];omega
   have hwm:IntKind.i64.wrap (1+(m:Int))=1+(m:Int):=by rw [IntKind.wrap_i64];omega
   clear hdd HWW hww hm
   go_enter Tryz.func25,Tryz.ntmps25
   go_wp2_with fail
   rw [← HW1.out,← HQ.out]
   obtain ⟨w2,hw2⟩:∃ w2,w2=w1.drew:=⟨_,rfl⟩
   have hb2:Below w1.heap.size w1 w2:=by rw [hw2];exact (Below.refl _ _).drew
   have n2:=HN1.out.below hb2
   obtain ⟨c0,c1,c2⟩:=n2.cells
   have hkk:=HCL.out w2 (Chg.of_below hb2)
   have hT:w2.cell? ⟨jn,1,none⟩=some (.pointer (some ⟨j,0,none⟩))∧w2.cell? ⟨q,9,none⟩=some (.int .u8 an):=⟨c1,hkk.cell 9⟩
   have hS:True:=trivial
   have HAP:=Lib.hid (HRET.out w2 hb2)
   have HN2:=Lib.hid n2
   have HB2:=Lib.hid hb2
   clear n2 hkk HRET hb2
   go_wp2_with fail
   refine wp_region_two (T:=fun W => W.cell? ⟨jn,1,none⟩=some (.pointer (some ⟨j,0,none⟩))∧W.cell? ⟨q,9,none⟩=some (.int .u8 an)) (S:=fun _ => True) (n:=99) (by kernel_rfl) ?_
   rw [← hw2]
   clear hw2 c0 c1 c2
   refine tk 0 34 hT hS ?_
   refine tk 1 35 hT hS ?_
   try simp only [xq]
   refine tk 2 36 hT hS ?_
   refine tk 3 37 hT hS ?_
   try simp only [xq]
   refine tk 4 38 hT hS ?_
   refine tk 5 39 hT hS ?_
   try simp only [xq]
   refine tk 6 40 hT hS ?_
   refine tk 7 41 hT hS ?_
   try simp only [xq]
   refine tk 8 42 hT hS ?_
   try simp only [xq]
   refine two_one 9 rfl (by kernel_rfl) ?_
   intro K hK
   go_simp
   refine HAP.out.mono ?_
   rintro e w3 ⟨rfl,hp⟩
   have hnd:=HN2.out.acted hp
   have hT1:w3.cell? ⟨jn,1,none⟩=some (.pointer (some ⟨j,0,none⟩))∧w3.cell? ⟨q,9,none⟩=some (.int .u8 an):=by
    obtain ⟨P2,_,n3,hc3⟩:=hnd
    have hkk:=HCL.out w3 ((Chg.of_below HB2.out).trans hc3)
    exact ⟨n3.cells.2.1,hkk.cell 9⟩
   have HP:=Lib.hid (HPRE.out _ _ _ (NDA.after (Gr.refl _ _) (Chg.of_below HB2.out) hnd))
   refine hK.out _ _ hT1 (fun _ _ => hS) ?_
   clear hK K hp hnd HAP hT hT1
   try simp only [xq]
   refine two_done (by kernel_rfl) ?_ _
   go_wp2_with fail
   go_ret
   exact ⟨rfl,HP.out⟩
 · have hdd:decide (kd % 9<5)=false:=decide_eq_false (by have:=HKM.out;omega)
   rw [hdd]
   have hww:=HWW.out
   rw [if_neg (by have:=HKM.out;omega),if_neg (by have:=HKM.out;omega),if_neg (by have:=HKM.out;omega),if_neg (by have:=HKM.out;omega)] at hww
   subst hww
   have t0:(km == 0)=false:=beq_eq_false_iff_ne.2 n0
   have t1:(km == 1)=false:=beq_eq_false_iff_ne.2 n1
   have t2:(km == 2)=false:=beq_eq_false_iff_ne.2 n2
   have t3:(km == 3)=false:=beq_eq_false_iff_ne.2 n3
   have t4:(km == 4)=false:=beq_eq_false_iff_ne.2 n4
   clear hdd HWW n0 n1 n2 n3 n4
   go_enter Tryz.func25,Tryz.ntmps25
   go_wp2_with fail
   rw [← HW1.out,← HQ.out]
   go_wp2_with fail
   go_ret
   exact ⟨rfl,HSAME.out⟩
end
end Go.Proofs.YtdacanghbepjpaaGreatDoor
namespace Go.Proofs.YtdacanghbepjpaaGreatDoor
set_option linter.unusedSimpArgs false
set_option linter.unusedVariables false
set_option maxRecDepth 100000
open Go.RowKit Go.Maps
open Dsk
def spanD (n:Int):Sp.Span:=⟨3,n,0,⟨#[97]⟩,⟨#[104]⟩,10,0,⟨#[]⟩⟩
theorem spanD_may {n:Int} (h:1≤n∧n≤100):Sp.May (spanD n):=by
 have h1:Sp.NameOk ⟨#[97]⟩:=by decide
 have h2:Sp.NameOk ⟨#[104]⟩:=by decide
 exact ⟨by simp only [spanD];omega,by simp only [spanD];omega,by simp only [spanD];omega,by simp only [spanD];omega,by simp only [spanD];omega,h1,h2,by simp only [spanD];decide⟩
set_option maxHeartbeats 2000000 in
theorem spanD_any (n:Int) (w:World):Calls Tryz.prog 21 #[.int .i64 n] w fun e w' => e=.returned (spV (spanD n))∧Below w.heap.size w w':=by
 go_enter Tryz.func21,Tryz.ntmps21
 go_wp2_with fail
 have k:=Blk.alloc_new w 47 #[.int .i64 3,.int .i64 n,.int .i64 0,.string ⟨#[97]⟩,.string ⟨#[104]⟩,.int .i64 10,.int .i64 0,.string ⟨#[]⟩]
 have k0:=k.cell 0
 have k1:=k.cell 1
 have k2:=k.cell 2
 have k3:=k.cell 3
 have k4:=k.cell 4
 have k5:=k.cell 5
 have k6:=k.cell 6
 have k7:=k.cell 7
 simp only [List.getElem?_toArray,List.getElem?_cons_zero,List.getElem?_cons_succ] at k0 k1 k2 k3 k4 k5 k6 k7
 refine bodyPost_ret (v:=.agg #[.int .i64 3,.int .i64 n,.int .i64 0,.string ⟨#[97]⟩,.string ⟨#[104]⟩,.int .i64 10,.int .i64 0,.string ⟨#[]⟩]) (by simp [results,Tryz.results21,go_sem,k0,k1,k2,k3,k4,k5,k6,k7]) rfl ⟨rfl,?_⟩
 exact (Below.refl _ _).alloc (Nat.le_refl _) _
theorem ackD_any (h f n:Int) (w:World):Calls Tryz.prog 35 #[.int .i64 h,.int .i64 f,.int .i64 n] w fun e w' => e=.returned (.string (encAck h f n).1)∧Below w.heap.size w w':=by
 have HE:=Lib.hid (encAck_any h f n w)
 unfold ackV at HE
 go_enter Tryz.func35,Tryz.ntmps35
 go_wp2_with fail
 refine HE.out.mono ?_
 rintro e w1 ⟨rfl,hb⟩
 have HB:=Lib.hid hb
 clear hb HE
 go_wp2_with fail
 go_ret
 exact ⟨rfl,HB.out⟩
set_option maxHeartbeats 4000000 in
theorem beyond_span (q:Nat) (s3 s4 s7:ByteArray) (h3:s3.size≤maxLen) (h4:s4.size≤maxLen) (h7:s7.size≤maxLen) (w:World) (k3:w.cell? ⟨q,3,none⟩=some (.string s3)) (k4:w.cell? ⟨q,4,none⟩=some (.string s4)) (k7:w.cell? ⟨q,7,none⟩=some (.string s7)) :
  Calls Tryz.prog 88 #[.slice (some ⟨q,0,none⟩) 1 1,.int .i64 1] w fun e w' => (∃ b:Nat,e=.returned (.bool (b == 1)))∧w=w':=by
 unfold maxLen at h3 h4 h7
 have hlen:(1:Int)=((1:Nat):Int):=rfl
 clear hlen
 go_enter Tryz.func88,Tryz.ntmps88
 go_wp2_with fail
 go_loop [5] (fun v5 => ∃ (k:Nat),v5=.int .i64 k∧k≤1) (fun v5 => 1-(intOf v5).toNat)
 case atStart => exact ⟨0,rfl,by omega⟩
 case round =>
  obtain ⟨k,rfl,hk⟩:=hrel
  have hkc:k=0∨k=1:=by omega
  rcases hkc with rfl | rfl
  · go_wp2_with fail
    all_goals first
     | (go_ret;exact ⟨⟨1,rfl⟩,rfl⟩)
     | (go_round
        case rel => exact ⟨1,by go_num,by omega⟩
        case measure => simp [intOf])
  · go_wp2_with fail
    go_ret
    exact ⟨⟨0,rfl⟩,rfl⟩
end Go.Proofs.YtdacanghbepjpaaGreatDoor
namespace Go.Proofs.YtdacanghbepjpaaGreatDoor
set_option linter.unusedSimpArgs false
set_option linter.unusedVariables false
set_option maxRecDepth 100000
open Go.RowKit Go.Maps
open Dsk
set_option maxHeartbeats 4000000 in
theorem beyond_acts (v:Value) (l:List DAct) (w:World) (h:RdDA w v l) (hm:l.length≤maxLen) (m:Nat) (hm2:m≤1000) :
  Calls Tryz.prog 24 #[v,.int .i64 m] w fun e w' => (∃ b:Nat,e=.returned (.bool (b == 1))∧(b≠1→l.length≤m))∧Below w.heap.size w w':=by
 obtain ⟨n,hn⟩:∃ n,n=l.length:=⟨_,rfl⟩
 obtain ⟨x,c,hv,hel⟩:=id h
 rw [← hn] at hm hv ⊢
 subst hv
 unfold maxLen at hm
 have HR:=Lib.hid (fun (W:World) (hW:Below w.heap.size w W) => h.below hW)
 have HN:=Lib.hid hn
 clear hel h hn
 by_cases hnm:m<n
 case pos =>
  have h1:(m:Int)<n:=by omega
  go_enter Tryz.func24,Tryz.ntmps24
  go_wp2_with fail
  go_ret
  exact ⟨⟨1,rfl,fun e => absurd rfl e⟩,Below.refl _ _⟩
 case neg =>
 have h1:¬ (m:Int)<n:=by omega
 go_enter Tryz.func24,Tryz.ntmps24
 go_wp2_with fail
 go_loopw [5] (fun v5 wr => ∃ (k:Nat),v5=.int .i64 k∧k≤n∧Below w.heap.size w wr) (fun v5 _ => n-(intOf v5).toNat)
 case atStart => exact ⟨0,rfl,Nat.zero_le _,Below.refl _ _⟩
 case round =>
  obtain ⟨k,rfl,hk,hbw⟩:=hrel
  have HBW:=Lib.hid hbw
  by_cases hlt:k<n
  case pos =>
   have hlt2:(k:Int)<n:=by omega
   obtain ⟨x9,c9,hv9,hel⟩:=HR.out wr hbw
   rw [← HN.out] at hv9
   obtain ⟨rfl,rfl⟩:x=x9∧c=c9:=by injection hv9 with e1 e2 e3;exact ⟨e1,e3⟩
   clear hv9 hbw
   obtain ⟨ho,b,off,rfl,hb,hc⟩:=hel k (by rw [← HN.out];exact hlt)
   obtain ⟨a,ha⟩:∃ a,a=l[k]'(by rw [← HN.out];exact hlt):=⟨_,rfl⟩
   rw [← ha] at ho hc
   obtain ⟨c0,c1,c2,c3,c4,c5,c6,c7,c8,c9,c10,c11,c12,c13⟩:=dact_load (b:=b) (off:=off+k*14) (a:=a) (fun i hi => by rw [Nat.add_assoc];exact hc i hi)
   have g13:=ho.data
   have HS3:=Lib.hid ho.s
   have HBB:=Lib.hid hb
   clear hel hc ho ha hb
   obtain ⟨kd,⟨zt,zi,zp,zs,zh,za,zd,zn⟩,an,aa,af,ab,adt⟩:=a
   simp only at *
   unfold maxLen at g13
   obtain ⟨q,hq⟩:∃ q,q=wr.heap.size:=⟨_,rfl⟩
   obtain ⟨w1,hw1⟩:∃ w1,w1=wr.alloc (.cells #[.int .i64 zt,.int .i64 zi,.int .i64 zp,.string zs,.string zh,.int .i64 za,.int .i64 zd,.string zn] 47 (0,0)):=⟨_,rfl⟩
   have hb1:Below wr.heap.size wr w1:=by rw [hw1];exact (Below.refl _ _).alloc (Nat.le_refl _) _
   have hk1:Blk w1 q 47 #[.int .i64 zt,.int .i64 zi,.int .i64 zp,.string zs,.string zh,.int .i64 za,.int .i64 zd,.string zn]:=by rw [hw1,hq];exact Blk.alloc_new wr _ _
   have HBY:=Lib.hid (beyond_span q zs zh zn HS3.out.service HS3.out.host HS3.out.note w1 (hk1.cell 3) (hk1.cell 4) (hk1.cell 7))
   have d13:w1.cell? ⟨b,off+k*14+13,none⟩=some (.string adt):=(hb1.cell (p:=⟨b,_,none⟩) HBB.out).trans c13
   have HB1:=Lib.hid (HBW.out.trans (hb1.mono HBW.out.size))
   have HW1:=Lib.hid hw1
   have HQ:=Lib.hid hq
   clear hb1 hk1 hw1 hq
   go_wp2_with fail
   rw [← HW1.out,← HQ.out]
   refine HBY.out.mono ?_
   rintro e w2 ⟨⟨r,rfl⟩,rfl⟩
   by_cases hr:r=1
   · subst hr
     go_wp2_with fail
     go_ret
     exact ⟨⟨1,rfl,fun e => absurd rfl e⟩,HB1.out⟩
   · have hrb:(r == 1)=false:=beq_eq_false_iff_ne.2 hr
     by_cases h200:200<adt.size
     · have h201:(200:Int)<adt.size:=by omega
       go_wp2_with fail
       go_ret
       exact ⟨⟨1,rfl,fun e => absurd rfl e⟩,HB1.out⟩
     · have h201:¬ (200:Int)<adt.size:=by omega
       go_wp2_with fail
       go_roundw
       case rel => exact ⟨k+1,by go_num,by omega,HB1.out⟩
       case measure => simp [intOf];omega
  case neg =>
   have hlt2:¬ (k:Int)<n:=by omega
   clear hbw
   go_wp2_with fail
   go_ret
   exact ⟨⟨0,rfl,fun _ => by omega⟩,HBW.out⟩
end Go.Proofs.YtdacanghbepjpaaGreatDoor
namespace Go.Proofs.YtdacanghbepjpaaGreatDoor
set_option linter.unusedSimpArgs false
set_option linter.unusedVariables false
open Dsk
section
variable {d d':Dk} {l:List Sg} {s s' k c:Nat} {h h':Hl} {x:Dm} {Ls:List Sp.Span}
theorem NodeC.new (host:Int) (hh:Po.HostOk host) {c:Nat} (h1:1≤c) (h2:c≤1048576):NodeC (Dk.new c) ⟨0,false,[]⟩ 0 ⟨host,0,0,noB,0,0⟩ [] c 0 :=
 ⟨⟨⟨⟨rfl,rfl,rfl⟩,[],LSt.new h1 h2,CurR.start⟩,⟨Int.le_refl _,Int.le_refl _⟩,Int.le_refl _,hh,.inl ⟨rfl,rfl⟩⟩,rfl,rfl,Nat.le_refl _,Nat.le_refl _,rfl,rfl,Nat.le_refl _⟩
theorem NodeC.bounds (n:NodeC d h s x Ls c k) (hk:k≤1000) (hc:120*(k+2)≤c):d.files.length<1024∧total d.files+19≤d.room∧nextOf h.l≤900000000:=by
 have h1:=n.tot
 have h2:=n.len
 have h3:=n.room
 have h4:=n.next
 have h5:=n.many
 omega
def lsE:Nat→List Sg
 | 0 => []
 | n+1 => pushed (lsE n) (spanD ((n:Int)+1))
def LsE:Nat→List Sp.Span
 | 0 => []
 | n+1 => LsE n++[spanD ((n:Int)+1)]
theorem sur_lsE {s:Nat} (hk:k≤3):surApp (lsE k) s=if k=0 then 0 else sureOf (lsE k) s:=by
 match k,hk with
 | 0,_ => rfl
 | 1,_ => rfl
 | 2,_ => rfl
 | 3,_ => rfl
theorem first_lsE (hk:k≤4):firstOf (lsE k)=0:=by
 match k,hk with
 | 0,_ => rfl
 | 1,_ => rfl
 | 2,_ => rfl
 | 3,_ => rfl
 | 4,_ => rfl
theorem lv_app (n:NodeC d h s x (LsE k) 1048576 k) (hl:h.l=lsE k) (hs:sureOf h.l s=0) (hk:k<3) :
  ∃ s',NodeC (appP d h (spanD ((k:Int)+1))).2.2 (appP d h (spanD ((k:Int)+1))).2.1 s' x (LsE (k+1)) 1048576 (k+1)∧(appP d h (spanD ((k:Int)+1))).2.1.l=lsE (k+1)∧sureOf (appP d h (spanD ((k:Int)+1))).2.1.l s'=0:=by
 obtain ⟨e1,e2,s',n',e3⟩:=n.app (by omega) (by omega) (spanD ((k:Int)+1)) (spanD_may (by omega))
 rw [e2]
 refine ⟨s',n',by rw [hl];rfl,?_⟩
 rw [e3,hl,sur_lsE (by omega)]
 split
 · rfl
 · rw [← hl];exact hs
theorem lv_rest (n:NodeC d h s ⟨0,0,0,noB,0,0⟩ (LsE 3) 1048576 3) (hl:h.l=lsE 3) :
  ∃ d1 s1 d2 h2 s2 d3 x3 x4 d5 x5 d6 x6,
   (syncP d h).2.1=h∧(syncP d h).2.2=d1∧NodeC d1 h s1 ⟨0,0,0,noB,0,0⟩ (LsE 3) 1048576 4 ∧
   (appP d1 h (spanD 4)).2.2=d2∧(appP d1 h (spanD 4)).2.1=h2∧NodeC d2 h2 s2 ⟨0,0,0,noB,0,0⟩ (LsE 4) 1048576 5 ∧
   stepC 5 d2 h2 ⟨0,0,0,noB,0,0⟩=((batchB 0 0 (LsE 3),0),x3,d3)∧NodeC d3 h2 s2 x3 (LsE 4) 1048576 6∧x3.sent=5 ∧
   stepC 7 d3 h2 x3=((noB,0),x3,d3) ∧
   stepC 8 d3 h2 x3=((batchB 0 0 (LsE 3),0),x4,d3)∧NodeC d3 h2 s2 x4 (LsE 4) 1048576 7∧x4.sent=8 ∧
   takeC (Po.ackS 0 0 2) d3 x4=((false,0),x4,d3) ∧
   takeC (Po.ackS 0 0 3) d3 x4=((true,0),x5,d5)∧NodeC d5 h2 s2 x5 (LsE 4) 1048576 8∧x5.sent=8 ∧
   stepC 9 d5 h2 x5=((noB,0),x6,d6)∧NodeC d6 h2 s2 x6 (LsE 4) 1048576 9∧x6.next=3∧x6.gap=0:=by
 obtain ⟨_,e2,s1,n1,su1⟩:=n.sync
 have hL3:(LsE 3).length=3:=rfl
 rw [hL3] at su1
 obtain ⟨_,e4,s2,n2,su2⟩:=n1.app (by omega) (by omega) (spanD 4) (spanD_may (by omega))
 have hsa:surApp h.l s1=3:=by rw [hl,sur_lsE (by omega),if_neg (by decide),← hl];exact su1
 rw [hsa] at su2
 obtain ⟨d1,hd1⟩:∃ d1,d1=(syncP d h).2.2:=⟨_,rfl⟩
 rw [← hd1] at n1 n2 e4
 obtain ⟨d2,hd2⟩:∃ d2,d2=(appP d1 h (spanD 4)).2.2:=⟨_,rfl⟩
 obtain ⟨h2,hh2⟩:∃ h2,h2=(appP d1 h (spanD 4)).2.1:=⟨_,rfl⟩
 rw [← hd2,← hh2] at n2
 rw [← hh2] at e4
 have n2':NodeC d2 h2 s2 ⟨0,0,0,noB,0,0⟩ (LsE 4) 1048576 5:=n2
 have hl2:h2.l=lsE 4:=by rw [e4,hl];rfl
 have hsu2:sureOf h2.l s2=3:=by rw [e4];exact su2
 have hf2:firstOf h2.l=0:=by rw [hl2];exact first_lsE (by omega)
 obtain ⟨_,_,d3,x3,t1,n3,t2,t3,t4,t5,t6⟩:=n2'.step0 (by omega) (by omega) rfl 5 0 (by rw [hf2];rfl)
 rw [hsu2] at t6
 rcases t6 with ⟨t6,_⟩ | ⟨_,t6,t7,t8⟩
 · omega
 have hpg:pageL h2.l s2 0=LsE 3:=by rw [t8.is_];rfl
 rw [hpg] at t6 t7
 have hx3o:x3.out=batchB 0 0 (LsE 3):=t6
 have hne3:x3.out≠noB:=by rw [hx3o];exact batchB_ne _ _ _
 have t7':x3.many=3:=t7
 have a7:=step_again d3 h2 x3 7 n3.node.off hne3
 rw [t5,if_pos (by decide)] at a7
 have a8:=step_again d3 h2 x3 8 n3.node.off hne3
 rw [t5,if_neg (by decide)] at a8
 have n4:=(n3.sent 8).more
 obtain ⟨x4,hx4⟩:∃ x4:Dm,x4={ x3 with sent:=8 }:=⟨_,rfl⟩
 rw [← hx4] at a8 n4
 have f1:x4.host=0:=by rw [hx4];exact t2
 have f2:x4.next=0:=by rw [hx4];exact t3
 have f3:x4.many=3:=by rw [hx4];exact t7'
 have f4:x4.out≠noB:=by rw [hx4];exact hne3
 have f5:x4.gap=0:=by rw [hx4];show x3.gap=0;rw [t4];rfl
 have k2:Po.decAck (Po.ackS 0 0 2)=some (0,0,2):=Po.decAck_ack (h:=0) (f:=0) (n:=2) ⟨by decide,by decide,by decide,by decide⟩
 have k3:Po.decAck (Po.ackS 0 0 3)=some (0,0,3):=Po.decAck_ack (h:=0) (f:=0) (n:=3) ⟨by decide,by decide,by decide,by decide⟩
 have hk2:takeC (Po.ackS 0 0 2) d3 x4=((false,0),x4,d3):=by
  rcases n4.take (by omega) (by omega) (Po.ackS 0 0 2) with ⟨e,_⟩ | ⟨_,_,e⟩ | ⟨_,e,_⟩
  · rw [k2] at e;cases e
  · exact e
  · rw [k2,f1,f2,f3] at e
    simp at e
 rcases n4.take (by omega) (by omega) (Po.ackS 0 0 3) with ⟨e,_⟩ | ⟨_,e,_⟩ | ⟨_,_,d5,b1,n5⟩
 · rw [k3] at e;cases e
 · exact absurd ⟨f4,by rw [k3,f1,f2,f3];rfl⟩ e
 rw [f2,f3] at b1 n5
 obtain ⟨x5,hx5⟩:∃ x5:Dm,x5={ x4 with next:=(0:Int)+3,out:=noB,many:=0 }:=⟨_,rfl⟩
 rw [← hx5] at b1 n5
 have g1:x5.next=3:=by rw [hx5];rfl
 have g2:x5.gap=0:=by rw [hx5];exact f5
 have g3:x5.out=noB:=by rw [hx5]
 obtain ⟨_,_,d6,x6,u1,n6,u2,u3,u4,u5,u6⟩:=n5.step0 (by omega) (by omega) g3 9 3 (by rw [hf2,g1];rfl)
 rw [hsu2] at u6
 rcases u6 with ⟨_,u6,_⟩ | ⟨u6,_⟩
 case inr => omega
 rw [u6] at u1
 rw [hx3o] at t1
 have hx4o:x3.out=batchB 0 0 (LsE 3):=hx3o
 rw [hx4o] at a8
 refine ⟨d1,s1,d2,h2,s2,d3,x3,x4,d5,x5,d6,x6,e2,hd1.symm,n1,hd2.symm,hh2.symm,n2',t1,n3,t5,a7,a8,n4,by rw [hx4],hk2,b1,n5,by rw [hx5,hx4],u1,n6,u3,by rw [u4,g2,g1];rfl⟩
end
end Go.Proofs.YtdacanghbepjpaaGreatDoor
