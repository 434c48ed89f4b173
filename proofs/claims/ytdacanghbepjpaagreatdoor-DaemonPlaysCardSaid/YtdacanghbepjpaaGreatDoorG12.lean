/- A daemon by the document, plainly: numbers of records, without a disk. No program in sight. A daemon by the document, in memory: walked. A daemon's step by the document, in memory: walked. The document's daemon and its log beside a node: what stays, plainly and in memory. -/
import Derived.Test.YtdacanghbepjpaaGreatDoorG8
import Derived.Test.YtdacanghbepjpaaGreatDoorG11
import Derived.Test.YtdacanghbepjpaaGreatDoorG9
namespace Go.Proofs.YtdacanghbepjpaaGreatDoor
set_option linter.unusedSimpArgs false
set_option linter.unusedVariables false
open Dsk
def pgR (Ls:List Sp.Span) (a su:Nat):List Sp.Span:=(Ls.take (min (a+8) su)).drop a
def atR (fi:Nat) (x:Dm):Int:=max x.next (fi:Int)
def stpR (fi su:Nat) (Ls:List Sp.Span) (now:Int) (x:Dm):ByteArray×Dm :=
 if x.many>0 then (if now-x.sent<3 then (noB,x) else (x.out,{ x with sent:=now }))
 else if (su:Int)≤atR fi x then (noB,⟨x.host,atR fi x,x.gap+(atR fi x-x.next),noB,0,now⟩)
 else (batchB x.host (atR fi x) (pgR Ls (atR fi x).toNat su),⟨x.host,atR fi x,x.gap+(atR fi x-x.next),batchB x.host (atR fi x) (pgR Ls (atR fi x).toNat su),(pgR Ls (atR fi x).toNat su).length,now⟩)
def tkR (s:Str) (x:Dm):(Bool×Int)×Dm :=
 match Po.decAck s with
 | none => ((false,30),x)
 | some (ho,f,n) => if x.many=0∨ho≠x.host∨f≠x.next∨n≠x.next+x.many then ((false,0),x) else ((true,0),{ x with next:=n,out:=noB,many:=0 })
section
variable {d d':Dk} {s k c:Nat} {h:Hl} {x:Dm} {Ls:List Sp.Span}
theorem OutOk.many0 {su:Nat} (o:OutOk x su):x.many=0↔x.out=noB:=by
 rcases o with ⟨e1,e2⟩ | ⟨ss,e1,e2,e3,_⟩
 · exact ⟨fun _ => e1,fun _ => e2⟩
 · exact ⟨fun e => by omega,fun e => absurd (e1.symm.trans e) (batchB_ne _ _ _)⟩
theorem OutOk.pos {su:Nat} (o:OutOk x su):0≤x.many∧x.many≤8:=by
 rcases o with ⟨e1,e2⟩ | ⟨ss,e1,e2,e3,e4,_⟩
 · omega
 · omega
theorem NodeC.tkR (n:NodeC d h s x Ls c k) (hk:k≤1000) (hc:120*(k+2)≤c) (b:Po.Str) :
  ∃ d',takeC b d x=((Go.Proofs.YtdacanghbepjpaaGreatDoor.tkR b x).1,(Go.Proofs.YtdacanghbepjpaaGreatDoor.tkR b x).2,d')∧NodeC d' h s (Go.Proofs.YtdacanghbepjpaaGreatDoor.tkR b x).2 Ls c (k+1):=by
 have hm:=n.node.out.many0
 unfold Go.Proofs.YtdacanghbepjpaaGreatDoor.tkR
 rcases n.take hk hc b with ⟨e1,e2⟩ | ⟨e1,e2,e3⟩ | ⟨e1,e2,d',e3,e4⟩
 · rw [e1]
   exact ⟨d,e2,n.more⟩
 · cases hd:Po.decAck b with
   | none => exact absurd hd e1
   | some q =>
    obtain ⟨ho,f,m⟩:=q
    simp only
    rw [if_pos]
    · exact ⟨d,e3,n.more⟩
    · refine Classical.byContradiction fun hg => e2 ⟨fun e => hg (.inl (hm.2 e)),?_⟩
      rw [hd]
      have h2:ho=x.host:=Classical.byContradiction fun e => hg (.inr (.inl e))
      have h3:f=x.next:=Classical.byContradiction fun e => hg (.inr (.inr (.inl e)))
      have h4:m=x.next+x.many:=Classical.byContradiction fun e => hg (.inr (.inr (.inr e)))
      rw [h2,h3,h4]
 · rw [e2]
   simp only
   rw [if_neg]
   · exact ⟨d',e3,e4⟩
   · intro hg
     rcases hg with hg | hg | hg | hg
     · exact e1 (hm.1 hg)
     · exact hg rfl
     · exact hg rfl
     · exact hg rfl
theorem NodeC.stpR (n:NodeC d h s x Ls c k) (hk:k≤1000) (hc:120*(k+2)≤c) (now:Int) :
  ∃ d',stepC now d h x=(((Go.Proofs.YtdacanghbepjpaaGreatDoor.stpR (firstOf h.l) (sureOf h.l s) Ls now x).1,0),(Go.Proofs.YtdacanghbepjpaaGreatDoor.stpR (firstOf h.l) (sureOf h.l s) Ls now x).2,d')∧NodeC d' h s (Go.Proofs.YtdacanghbepjpaaGreatDoor.stpR (firstOf h.l) (sureOf h.l s) Ls now x).2 Ls c (k+1):=by
 have hm:=n.node.out.many0
 have hp:=n.node.out.pos
 have hg:=n.node.gap
 unfold Go.Proofs.YtdacanghbepjpaaGreatDoor.stpR
 by_cases ho:x.out=noB
 · have h0:=hm.2 ho
   rw [if_neg (by omega)]
   obtain ⟨a,ha⟩:∃ a:Nat,(a:Int)=atR (firstOf h.l) x:=⟨(atR (firstOf h.l) x).toNat,by unfold atR;omega⟩
   obtain ⟨g1,g2,d',x',e1,e2,e3,e4,e5,e6,e7⟩:=n.step0 hk hc ho now a ha
   rw [← ha]
   obtain ⟨xh,xn,xg,xo,xm,xs⟩:=x'
   simp only at e3 e4 e5 e6 e7
   subst e3 e4 e5 e6
   rcases e7 with ⟨q1,q2,q3⟩ | ⟨q1,q2,q3,q4⟩
   · rw [if_pos (by omega)]
     subst q2 q3
     exact ⟨d',e1,e2⟩
   · rw [if_neg (by omega)]
     have hpg:pageL h.l s a=pgR Ls a (sureOf h.l s):=q4.is_
     rw [hpg] at q2 q3
     subst q2 q3
     exact ⟨d',e1,e2⟩
 · have h0:x.many≠0:=fun e => ho (hm.1 e)
   rw [if_pos (by omega),step_again d h x now n.node.off ho]
   by_cases h3:now-x.sent<3
   · rw [if_pos h3,if_pos h3]
     exact ⟨d,rfl,n.more⟩
   · rw [if_neg h3,if_neg h3]
     exact ⟨d,rfl,(n.sent now).more⟩
theorem NodeC.pgR (n:NodeC d h s x Ls c k) (ho:x.many=0) (h1:¬ (sureOf h.l s:Int)≤atR (firstOf h.l) x):Paged Ls (atR (firstOf h.l) x).toNat (sureOf h.l s) (Go.Proofs.YtdacanghbepjpaaGreatDoor.pgR Ls (atR (firstOf h.l) x).toNat (sureOf h.l s)):=by
 have hsu:=n.node.sure
 have hg:=n.node.gap
 have hle:=n.le
 have e:=n.page (m:=(atR (firstOf h.l) x).toNat) (by unfold atR;omega)
 have p:=n.paged (m:=(atR (firstOf h.l) x).toNat) (by unfold atR;omega) (by unfold atR;omega)
 rw [e] at p
 exact p
end
end Go.Proofs.YtdacanghbepjpaaGreatDoor
namespace Go.Proofs.YtdacanghbepjpaaGreatDoor
set_option linter.unusedSimpArgs false
set_option linter.unusedVariables false
set_option maxRecDepth 100000
open Go.RowKit Go.Maps
open Dsk
def dmC (x:Dm) (v:Int):Array Value:=#[.int .i64 x.host,.int .i64 x.next,.int .i64 x.gap,.string x.out,.int .i64 x.many,.int .i64 v]
set_option maxHeartbeats 8000000 in
theorem refTake_any {w:World} {jr:Nat} {x:Dm} {v:Int} (s:ByteArray) (hs:s.size≤maxLen) (hk:Blk w jr 71 (dmC x v)) (hb:-1000000000000≤x.next∧x.next≤1000000000000) (hm:-1000000000000≤x.many∧x.many≤1000000000000) :
  Calls Tryz.prog 32 #[.pointer (some ⟨jr,0,none⟩),.string s] w fun e w' => e=.returned (.tuple #[.bool (tkR s.data.toList x).1.1,.int .i64 (tkR s.data.toList x).1.2])∧Blk w' jr 71 (dmC (tkR s.data.toList x).2 v)∧Chg (fun k => k=jr) w w':=by
 obtain ⟨S,hS⟩:∃ S,S=s.data.toList:=⟨_,rfl⟩
 have hd:=refDecAck_any s hs w
 rw [← hS] at hd ⊢
 have HK:=Lib.hid hk
 clear hS hs hk
 cases hda:Po.decAck S with
 | none =>
  have e1:decAckV S=.tuple #[.agg #[.int .i64 0,.int .i64 0,.int .i64 0],.int .i64 30]:=by unfold decAckV;rw [hda];rfl
  rw [e1] at hd
  have HD:=Lib.hid hd
  have HV:=Lib.hid (show tkR S x=((false,30),x) from by unfold tkR;rw [hda])
  clear hda e1 hd
  go_enter Tryz.func32,Tryz.ntmps32
  go_wp2_with fail
  refine HD.out.mono ?_
  rintro e w1 ⟨rfl,hb1⟩
  obtain ⟨w2,hw2⟩:∃ y,y=w1.alloc (.cells #[.int .i64 0,.int .i64 0,.int .i64 0] 51 (0,0)):=⟨_,rfl⟩
  have HB:=Lib.hid (show Below w.heap.size w w2 from hb1.trans (by rw [hw2];exact ((Below.refl _ _).alloc (Nat.le_refl _) _).mono hb1.size))
  have HW2:=Lib.hid hw2
  clear hb1 hw2 HD
  go_wp2_with fail
  rw [← HW2.out]
  refine bodyPost_ret (v:=.tuple #[.bool false,.int .i64 30]) (by simp [results,Tryz.results32,go_sem]) rfl ?_
  rw [HV.out]
  exact ⟨rfl,HK.out.below HB.out,Chg.of_below HB.out⟩
 | some q =>
  obtain ⟨ho,fi,nx⟩:=q
  have e1:decAckV S=.tuple #[.agg #[.int .i64 ho,.int .i64 fi,.int .i64 nx],.int .i64 0]:=by unfold decAckV;rw [hda];rfl
  rw [e1] at hd
  have HD:=Lib.hid hd
  have HDA:=Lib.hid hda
  clear hda e1 hd
  unfold dmC at HK
  have hwm:IntKind.i64.wrap (x.next+x.many)=x.next+x.many:=by rw [IntKind.wrap_i64];omega
  by_cases t1:x.many=0
  case pos =>
   have HV:=Lib.hid (show tkR S x=((false,0),x) from by unfold tkR;rw [HDA.out];simp only;rw [if_pos (.inl t1)])
   have q1:(x.many == 0)=true:=beq_iff_eq.2 t1
   clear t1
   go_enter Tryz.func32,Tryz.ntmps32
   go_wp2_with fail
   refine HD.out.mono ?_
   rintro e w1 ⟨rfl,hb1⟩
   obtain ⟨q2,hq2⟩:∃ q,q=w1.heap.size:=⟨_,rfl⟩
   obtain ⟨w2,hw2⟩:∃ y,y=w1.alloc (.cells #[.int .i64 ho,.int .i64 fi,.int .i64 nx] 51 (0,0)):=⟨_,rfl⟩
   have hb2:Below w1.heap.size w1 w2:=by rw [hw2];exact (Below.refl _ _).alloc (Nat.le_refl _) _
   have hk2:Blk w2 q2 51 #[.int .i64 ho,.int .i64 fi,.int .i64 nx]:=by rw [hw2,hq2];exact Blk.alloc_new w1 _ _
   have HB:=Lib.hid (hb1.trans (hb2.mono hb1.size))
   have HKJ:=Lib.hid (HK.out.below HB.out)
   have HK2:=Lib.hid hk2
   have HW2:=Lib.hid hw2
   have HQ2:=Lib.hid hq2
   have HTT:=Lib.hid (fun (W:World) (hW:Below w2.heap.size w2 W) => show W.cell? ⟨jr,0,none⟩=some (.int .i64 x.host)∧W.cell? ⟨jr,1,none⟩=some (.int .i64 x.next)∧W.cell? ⟨jr,4,none⟩=some (.int .i64 x.many)∧W.cell? ⟨q2,0,none⟩=some (.int .i64 ho)∧W.cell? ⟨q2,1,none⟩=some (.int .i64 fi)∧W.cell? ⟨q2,2,none⟩=some (.int .i64 nx) from by
    have k1:=HKJ.out.below hW
    have k2:=HK2.out.below hW
    exact ⟨k1.cell 0,k1.cell 1,k1.cell 4,k2.cell 0,k2.cell 1,k2.cell 2⟩)
   clear hb1 hq2 hw2 hb2 hk2 HD
   go_wp2_with fail
   rw [← HW2.out,← HQ2.out]
   obtain ⟨x1,hx1⟩:∃ y,y=w2.drew:=⟨_,rfl⟩
   have HX1:=Lib.hid (show Below w2.heap.size w2 x1 by rw [hx1];exact (Below.refl _ _).drew)
   have hT:=HTT.out x1 HX1.out
   have hS:True:=trivial
   refine wp_region_two (T:=fun W => W.cell? ⟨jr,0,none⟩=some (.int .i64 x.host)∧W.cell? ⟨jr,1,none⟩=some (.int .i64 x.next)∧W.cell? ⟨jr,4,none⟩=some (.int .i64 x.many)∧W.cell? ⟨q2,0,none⟩=some (.int .i64 ho)∧W.cell? ⟨q2,1,none⟩=some (.int .i64 fi)∧W.cell? ⟨q2,2,none⟩=some (.int .i64 nx)) (S:=fun _ => True) (n:=99) (by kernel_rfl) ?_
   rw [← hx1]
   clear hx1
   refine tk 0 16 hT hS ?_
   refine tk 1 17 hT hS ?_
   try simp only [xq]
   refine tk 2 18 hT hS ?_
   refine tk 3 19 hT hS ?_
   try simp only [xq]
   refine tk 4 20 hT hS ?_
   refine tk 5 21 hT hS ?_
   try simp only [xq]
   refine tkT 6 22 (v:=undef) rfl rfl (Or.inr ⟨by rfl,rfl⟩) hT hS ?_
   try simp only [xq]
   refine tkT 7 23 (v:=undef) rfl rfl (Or.inr ⟨by rfl,rfl⟩) hT hS ?_
   try simp only [xq]
   refine tkT 8 24 (v:=undef) rfl rfl (Or.inr ⟨by rfl,rfl⟩) hT hS ?_
   try simp only [xq]
   refine tkT 9 25 (v:=undef) rfl rfl (Or.inr ⟨by rfl,rfl⟩) hT hS ?_
   try simp only [xq]
   refine tkT 10 26 (v:=undef) rfl rfl (Or.inr ⟨by rfl,rfl⟩) hT hS ?_
   try simp only [xq]
   refine tkT 11 27 (v:=undef) rfl rfl (Or.inr ⟨by rfl,rfl⟩) hT hS ?_
   try simp only [xq]
   refine tkT 12 28 (v:=undef) rfl rfl (Or.inr ⟨by rfl,rfl⟩) hT hS ?_
   try simp only [xq]
   refine tk 13 29 hT hS ?_
   refine tk 14 30 hT hS ?_
   try simp only [xq]
   refine tkT 15 31 (v:=undef) rfl rfl (Or.inr ⟨by rfl,rfl⟩) hT hS ?_
   try simp only [xq]
   refine tkT 16 32 (v:=undef) rfl rfl (Or.inr ⟨by rfl,rfl⟩) hT hS ?_
   try simp only [xq]
   refine tkT 17 33 (v:=undef) rfl rfl (Or.inr ⟨by rfl,rfl⟩) hT hS ?_
   try simp only [xq]
   refine tkT 18 34 (v:=undef) rfl rfl (Or.inr ⟨by rfl,rfl⟩) hT hS ?_
   try simp only [xq]
   refine tkT 19 35 (v:=undef) rfl rfl (Or.inr ⟨by rfl,rfl⟩) hT hS ?_
   try simp only [xq]
   refine tkT 20 36 (v:=undef) rfl rfl (Or.inr ⟨by rfl,rfl⟩) hT hS ?_
   try simp only [xq]
   refine tkT 21 37 (v:=undef) rfl rfl (Or.inr ⟨by rfl,rfl⟩) hT hS ?_
   try simp only [xq]
   refine tkT 22 38 (v:=undef) rfl rfl (Or.inr ⟨by rfl,rfl⟩) hT hS ?_
   try simp only [xq]
   refine tk 23 39 hT hS ?_
   refine tk 24 40 hT hS ?_
   try simp only [xq]
   refine tkT 25 41 (v:=undef) rfl rfl (Or.inr ⟨by rfl,rfl⟩) hT hS ?_
   try simp only [xq]
   refine tkT 26 42 (v:=undef) rfl rfl (Or.inr ⟨by rfl,rfl⟩) hT hS ?_
   try simp only [xq]
   refine tkT 27 43 (v:=undef) rfl rfl (Or.inr ⟨by rfl,rfl⟩) hT hS ?_
   try simp only [xq]
   refine tkT 28 44 (v:=undef) rfl rfl (Or.inr ⟨by rfl,rfl⟩) hT hS ?_
   try simp only [xq]
   refine tkT 29 45 (v:=undef) rfl rfl (Or.inr ⟨by rfl,rfl⟩) hT hS ?_
   try simp only [xq]
   refine tkT 30 46 (v:=undef) rfl rfl (Or.inr ⟨by rfl,rfl⟩) hT hS ?_
   try simp only [xq]
   refine tkT 31 47 (v:=undef) rfl rfl (Or.inr ⟨by rfl,rfl⟩) hT hS ?_
   try simp only [xq]
   refine tkT 32 48 (v:=undef) rfl rfl (Or.inr ⟨by rfl,rfl⟩) hT hS ?_
   try simp only [xq]
   refine tkT 33 49 (v:=undef) rfl rfl (Or.inr ⟨by rfl,rfl⟩) hT hS ?_
   try simp only [xq]
   refine tkT 34 50 (v:=undef) rfl rfl (Or.inr ⟨by rfl,rfl⟩) hT hS ?_
   try simp only [xq]
   refine tkT 35 51 (v:=undef) rfl rfl (Or.inr ⟨by rfl,rfl⟩) hT hS ?_
   try simp only [xq]
   refine tkT 36 52 (v:=undef) rfl rfl (Or.inr ⟨by rfl,rfl⟩) hT hS ?_
   try simp only [xq]
   refine tkT 37 53 (v:=undef) rfl rfl (Or.inr ⟨by rfl,rfl⟩) hT hS ?_
   try simp only [xq]
   refine tk 38 54 hT hS ?_
   try simp only [xq]
   refine two_done (by kernel_rfl) ?_ _
   clear hT
   go_wp2_with fail
   refine bodyPost_ret (v:=.tuple #[.bool false,.int .i64 0]) (by simp [results,Tryz.results32,go_sem]) rfl ?_
   rw [HV.out]
   exact ⟨rfl,HKJ.out.below HX1.out,Chg.of_below (HB.out.trans (HX1.out.mono HB.out.size))⟩
  case neg =>
  have q1:(x.many == 0)=false:=beq_eq_false_iff_ne.2 t1
  by_cases t2:ho=x.host
  case neg =>
   have HV:=Lib.hid (show tkR S x=((false,0),x) from by unfold tkR;rw [HDA.out];simp only;rw [if_pos (.inr (.inl t2))])
   have q2:(ho != x.host)=true:=bne_iff_ne.2 t2
   clear t1 t2
   go_enter Tryz.func32,Tryz.ntmps32
   go_wp2_with fail
   refine HD.out.mono ?_
   rintro e w1 ⟨rfl,hb1⟩
   obtain ⟨q2,hq2⟩:∃ q,q=w1.heap.size:=⟨_,rfl⟩
   obtain ⟨w2,hw2⟩:∃ y,y=w1.alloc (.cells #[.int .i64 ho,.int .i64 fi,.int .i64 nx] 51 (0,0)):=⟨_,rfl⟩
   have hb2:Below w1.heap.size w1 w2:=by rw [hw2];exact (Below.refl _ _).alloc (Nat.le_refl _) _
   have hk2:Blk w2 q2 51 #[.int .i64 ho,.int .i64 fi,.int .i64 nx]:=by rw [hw2,hq2];exact Blk.alloc_new w1 _ _
   have HB:=Lib.hid (hb1.trans (hb2.mono hb1.size))
   have HKJ:=Lib.hid (HK.out.below HB.out)
   have HK2:=Lib.hid hk2
   have HW2:=Lib.hid hw2
   have HQ2:=Lib.hid hq2
   have HTT:=Lib.hid (fun (W:World) (hW:Below w2.heap.size w2 W) => show W.cell? ⟨jr,0,none⟩=some (.int .i64 x.host)∧W.cell? ⟨jr,1,none⟩=some (.int .i64 x.next)∧W.cell? ⟨jr,4,none⟩=some (.int .i64 x.many)∧W.cell? ⟨q2,0,none⟩=some (.int .i64 ho)∧W.cell? ⟨q2,1,none⟩=some (.int .i64 fi)∧W.cell? ⟨q2,2,none⟩=some (.int .i64 nx) from by
    have k1:=HKJ.out.below hW
    have k2:=HK2.out.below hW
    exact ⟨k1.cell 0,k1.cell 1,k1.cell 4,k2.cell 0,k2.cell 1,k2.cell 2⟩)
   clear hb1 hq2 hw2 hb2 hk2 HD
   go_wp2_with fail
   rw [← HW2.out,← HQ2.out]
   obtain ⟨x1,hx1⟩:∃ y,y=w2.drew:=⟨_,rfl⟩
   have HX1:=Lib.hid (show Below w2.heap.size w2 x1 by rw [hx1];exact (Below.refl _ _).drew)
   have hT:=HTT.out x1 HX1.out
   have hS:True:=trivial
   refine wp_region_two (T:=fun W => W.cell? ⟨jr,0,none⟩=some (.int .i64 x.host)∧W.cell? ⟨jr,1,none⟩=some (.int .i64 x.next)∧W.cell? ⟨jr,4,none⟩=some (.int .i64 x.many)∧W.cell? ⟨q2,0,none⟩=some (.int .i64 ho)∧W.cell? ⟨q2,1,none⟩=some (.int .i64 fi)∧W.cell? ⟨q2,2,none⟩=some (.int .i64 nx)) (S:=fun _ => True) (n:=99) (by kernel_rfl) ?_
   rw [← hx1]
   clear hx1
   refine tk 0 16 hT hS ?_
   refine tk 1 17 hT hS ?_
   try simp only [xq]
   refine tk 2 18 hT hS ?_
   refine tk 3 19 hT hS ?_
   try simp only [xq]
   refine tk 4 20 hT hS ?_
   refine tk 5 21 hT hS ?_
   try simp only [xq]
   refine tk 6 22 hT hS ?_
   refine tk 7 23 hT hS ?_
   try simp only [xq]
   refine tk 8 24 hT hS ?_
   refine tk 9 25 hT hS ?_
   try simp only [xq]
   refine tk 10 26 hT hS ?_
   refine tk 11 27 hT hS ?_
   try simp only [xq]
   refine tk 12 28 hT hS ?_
   refine tk 13 29 hT hS ?_
   try simp only [xq]
   refine tk 14 30 hT hS ?_
   try simp only [xq]
   refine tkT 15 31 (v:=undef) rfl rfl (Or.inr ⟨by rfl,rfl⟩) hT hS ?_
   try simp only [xq]
   refine tkT 16 32 (v:=undef) rfl rfl (Or.inr ⟨by rfl,rfl⟩) hT hS ?_
   try simp only [xq]
   refine tkT 17 33 (v:=undef) rfl rfl (Or.inr ⟨by rfl,rfl⟩) hT hS ?_
   try simp only [xq]
   refine tkT 18 34 (v:=undef) rfl rfl (Or.inr ⟨by rfl,rfl⟩) hT hS ?_
   try simp only [xq]
   refine tkT 19 35 (v:=undef) rfl rfl (Or.inr ⟨by rfl,rfl⟩) hT hS ?_
   try simp only [xq]
   refine tkT 20 36 (v:=undef) rfl rfl (Or.inr ⟨by rfl,rfl⟩) hT hS ?_
   try simp only [xq]
   refine tkT 21 37 (v:=undef) rfl rfl (Or.inr ⟨by rfl,rfl⟩) hT hS ?_
   try simp only [xq]
   refine tkT 22 38 (v:=undef) rfl rfl (Or.inr ⟨by rfl,rfl⟩) hT hS ?_
   try simp only [xq]
   refine tk 23 39 hT hS ?_
   refine tk 24 40 hT hS ?_
   try simp only [xq]
   refine tkT 25 41 (v:=undef) rfl rfl (Or.inr ⟨by rfl,rfl⟩) hT hS ?_
   try simp only [xq]
   refine tkT 26 42 (v:=undef) rfl rfl (Or.inr ⟨by rfl,rfl⟩) hT hS ?_
   try simp only [xq]
   refine tkT 27 43 (v:=undef) rfl rfl (Or.inr ⟨by rfl,rfl⟩) hT hS ?_
   try simp only [xq]
   refine tkT 28 44 (v:=undef) rfl rfl (Or.inr ⟨by rfl,rfl⟩) hT hS ?_
   try simp only [xq]
   refine tkT 29 45 (v:=undef) rfl rfl (Or.inr ⟨by rfl,rfl⟩) hT hS ?_
   try simp only [xq]
   refine tkT 30 46 (v:=undef) rfl rfl (Or.inr ⟨by rfl,rfl⟩) hT hS ?_
   try simp only [xq]
   refine tkT 31 47 (v:=undef) rfl rfl (Or.inr ⟨by rfl,rfl⟩) hT hS ?_
   try simp only [xq]
   refine tkT 32 48 (v:=undef) rfl rfl (Or.inr ⟨by rfl,rfl⟩) hT hS ?_
   try simp only [xq]
   refine tkT 33 49 (v:=undef) rfl rfl (Or.inr ⟨by rfl,rfl⟩) hT hS ?_
   try simp only [xq]
   refine tkT 34 50 (v:=undef) rfl rfl (Or.inr ⟨by rfl,rfl⟩) hT hS ?_
   try simp only [xq]
   refine tkT 35 51 (v:=undef) rfl rfl (Or.inr ⟨by rfl,rfl⟩) hT hS ?_
   try simp only [xq]
   refine tkT 36 52 (v:=undef) rfl rfl (Or.inr ⟨by rfl,rfl⟩) hT hS ?_
   try simp only [xq]
   refine tkT 37 53 (v:=undef) rfl rfl (Or.inr ⟨by rfl,rfl⟩) hT hS ?_
   try simp only [xq]
   refine tk 38 54 hT hS ?_
   try simp only [xq]
   refine two_done (by kernel_rfl) ?_ _
   clear hT
   go_wp2_with fail
   refine bodyPost_ret (v:=.tuple #[.bool false,.int .i64 0]) (by simp [results,Tryz.results32,go_sem]) rfl ?_
   rw [HV.out]
   exact ⟨rfl,HKJ.out.below HX1.out,Chg.of_below (HB.out.trans (HX1.out.mono HB.out.size))⟩
  case pos =>
  have q2:(ho != x.host)=false:=by rw [t2];simp
  by_cases t3:fi=x.next
  case neg =>
   have HV:=Lib.hid (show tkR S x=((false,0),x) from by unfold tkR;rw [HDA.out];simp only;rw [if_pos (.inr (.inr (.inl t3)))])
   have q3:(fi != x.next)=true:=bne_iff_ne.2 t3
   clear t1 t2 t3
   go_enter Tryz.func32,Tryz.ntmps32
   go_wp2_with fail
   refine HD.out.mono ?_
   rintro e w1 ⟨rfl,hb1⟩
   obtain ⟨q2,hq2⟩:∃ q,q=w1.heap.size:=⟨_,rfl⟩
   obtain ⟨w2,hw2⟩:∃ y,y=w1.alloc (.cells #[.int .i64 ho,.int .i64 fi,.int .i64 nx] 51 (0,0)):=⟨_,rfl⟩
   have hb2:Below w1.heap.size w1 w2:=by rw [hw2];exact (Below.refl _ _).alloc (Nat.le_refl _) _
   have hk2:Blk w2 q2 51 #[.int .i64 ho,.int .i64 fi,.int .i64 nx]:=by rw [hw2,hq2];exact Blk.alloc_new w1 _ _
   have HB:=Lib.hid (hb1.trans (hb2.mono hb1.size))
   have HKJ:=Lib.hid (HK.out.below HB.out)
   have HK2:=Lib.hid hk2
   have HW2:=Lib.hid hw2
   have HQ2:=Lib.hid hq2
   have HTT:=Lib.hid (fun (W:World) (hW:Below w2.heap.size w2 W) => show W.cell? ⟨jr,0,none⟩=some (.int .i64 x.host)∧W.cell? ⟨jr,1,none⟩=some (.int .i64 x.next)∧W.cell? ⟨jr,4,none⟩=some (.int .i64 x.many)∧W.cell? ⟨q2,0,none⟩=some (.int .i64 ho)∧W.cell? ⟨q2,1,none⟩=some (.int .i64 fi)∧W.cell? ⟨q2,2,none⟩=some (.int .i64 nx) from by
    have k1:=HKJ.out.below hW
    have k2:=HK2.out.below hW
    exact ⟨k1.cell 0,k1.cell 1,k1.cell 4,k2.cell 0,k2.cell 1,k2.cell 2⟩)
   clear hb1 hq2 hw2 hb2 hk2 HD
   go_wp2_with fail
   rw [← HW2.out,← HQ2.out]
   obtain ⟨x1,hx1⟩:∃ y,y=w2.drew:=⟨_,rfl⟩
   have HX1:=Lib.hid (show Below w2.heap.size w2 x1 by rw [hx1];exact (Below.refl _ _).drew)
   have hT:=HTT.out x1 HX1.out
   have hS:True:=trivial
   refine wp_region_two (T:=fun W => W.cell? ⟨jr,0,none⟩=some (.int .i64 x.host)∧W.cell? ⟨jr,1,none⟩=some (.int .i64 x.next)∧W.cell? ⟨jr,4,none⟩=some (.int .i64 x.many)∧W.cell? ⟨q2,0,none⟩=some (.int .i64 ho)∧W.cell? ⟨q2,1,none⟩=some (.int .i64 fi)∧W.cell? ⟨q2,2,none⟩=some (.int .i64 nx)) (S:=fun _ => True) (n:=99) (by kernel_rfl) ?_
   rw [← hx1]
   clear hx1
   refine tk 0 16 hT hS ?_
   refine tk 1 17 hT hS ?_
   try simp only [xq]
   refine tk 2 18 hT hS ?_
   refine tk 3 19 hT hS ?_
   try simp only [xq]
   refine tk 4 20 hT hS ?_
   refine tk 5 21 hT hS ?_
   try simp only [xq]
   refine tk 6 22 hT hS ?_
   refine tk 7 23 hT hS ?_
   try simp only [xq]
   refine tk 8 24 hT hS ?_
   refine tk 9 25 hT hS ?_
   try simp only [xq]
   refine tk 10 26 hT hS ?_
   refine tk 11 27 hT hS ?_
   try simp only [xq]
   refine tk 12 28 hT hS ?_
   refine tk 13 29 hT hS ?_
   try simp only [xq]
   refine tk 14 30 hT hS ?_
   refine tk 15 31 hT hS ?_
   try simp only [xq]
   refine tk 16 32 hT hS ?_
   refine tk 17 33 hT hS ?_
   try simp only [xq]
   refine tk 18 34 hT hS ?_
   refine tk 19 35 hT hS ?_
   try simp only [xq]
   refine tk 20 36 hT hS ?_
   refine tk 21 37 hT hS ?_
   try simp only [xq]
   refine tk 22 38 hT hS ?_
   refine tk 23 39 hT hS ?_
   try simp only [xq]
   refine tk 24 40 hT hS ?_
   try simp only [xq]
   refine tkT 25 41 (v:=undef) rfl rfl (Or.inr ⟨by rfl,rfl⟩) hT hS ?_
   try simp only [xq]
   refine tkT 26 42 (v:=undef) rfl rfl (Or.inr ⟨by rfl,rfl⟩) hT hS ?_
   try simp only [xq]
   refine tkT 27 43 (v:=undef) rfl rfl (Or.inr ⟨by rfl,rfl⟩) hT hS ?_
   try simp only [xq]
   refine tkT 28 44 (v:=undef) rfl rfl (Or.inr ⟨by rfl,rfl⟩) hT hS ?_
   try simp only [xq]
   refine tkT 29 45 (v:=undef) rfl rfl (Or.inr ⟨by rfl,rfl⟩) hT hS ?_
   try simp only [xq]
   refine tkT 30 46 (v:=undef) rfl rfl (Or.inr ⟨by rfl,rfl⟩) hT hS ?_
   try simp only [xq]
   refine tkT 31 47 (v:=undef) rfl rfl (Or.inr ⟨by rfl,rfl⟩) hT hS ?_
   try simp only [xq]
   refine tkT 32 48 (v:=undef) rfl rfl (Or.inr ⟨by rfl,rfl⟩) hT hS ?_
   try simp only [xq]
   refine tkT 33 49 (v:=undef) rfl rfl (Or.inr ⟨by rfl,rfl⟩) hT hS ?_
   try simp only [xq]
   refine tkT 34 50 (v:=undef) rfl rfl (Or.inr ⟨by rfl,rfl⟩) hT hS ?_
   try simp only [xq]
   refine tkT 35 51 (v:=undef) rfl rfl (Or.inr ⟨by rfl,rfl⟩) hT hS ?_
   try simp only [xq]
   refine tkT 36 52 (v:=undef) rfl rfl (Or.inr ⟨by rfl,rfl⟩) hT hS ?_
   try simp only [xq]
   refine tkT 37 53 (v:=undef) rfl rfl (Or.inr ⟨by rfl,rfl⟩) hT hS ?_
   try simp only [xq]
   refine tk 38 54 hT hS ?_
   try simp only [xq]
   refine two_done (by kernel_rfl) ?_ _
   clear hT
   go_wp2_with fail
   refine bodyPost_ret (v:=.tuple #[.bool false,.int .i64 0]) (by simp [results,Tryz.results32,go_sem]) rfl ?_
   rw [HV.out]
   exact ⟨rfl,HKJ.out.below HX1.out,Chg.of_below (HB.out.trans (HX1.out.mono HB.out.size))⟩
  case pos =>
  have q3:(fi != x.next)=false:=by rw [t3];simp
  by_cases t4:nx=x.next+x.many
  case neg =>
   have HV:=Lib.hid (show tkR S x=((false,0),x) from by unfold tkR;rw [HDA.out];simp only;rw [if_pos (.inr (.inr (.inr t4)))])
   have q4:(nx != x.next+x.many)=true:=bne_iff_ne.2 t4
   clear t1 t2 t3 t4
   go_enter Tryz.func32,Tryz.ntmps32
   go_wp2_with fail
   refine HD.out.mono ?_
   rintro e w1 ⟨rfl,hb1⟩
   obtain ⟨q2,hq2⟩:∃ q,q=w1.heap.size:=⟨_,rfl⟩
   obtain ⟨w2,hw2⟩:∃ y,y=w1.alloc (.cells #[.int .i64 ho,.int .i64 fi,.int .i64 nx] 51 (0,0)):=⟨_,rfl⟩
   have hb2:Below w1.heap.size w1 w2:=by rw [hw2];exact (Below.refl _ _).alloc (Nat.le_refl _) _
   have hk2:Blk w2 q2 51 #[.int .i64 ho,.int .i64 fi,.int .i64 nx]:=by rw [hw2,hq2];exact Blk.alloc_new w1 _ _
   have HB:=Lib.hid (hb1.trans (hb2.mono hb1.size))
   have HKJ:=Lib.hid (HK.out.below HB.out)
   have HK2:=Lib.hid hk2
   have HW2:=Lib.hid hw2
   have HQ2:=Lib.hid hq2
   have HTT:=Lib.hid (fun (W:World) (hW:Below w2.heap.size w2 W) => show W.cell? ⟨jr,0,none⟩=some (.int .i64 x.host)∧W.cell? ⟨jr,1,none⟩=some (.int .i64 x.next)∧W.cell? ⟨jr,4,none⟩=some (.int .i64 x.many)∧W.cell? ⟨q2,0,none⟩=some (.int .i64 ho)∧W.cell? ⟨q2,1,none⟩=some (.int .i64 fi)∧W.cell? ⟨q2,2,none⟩=some (.int .i64 nx) from by
    have k1:=HKJ.out.below hW
    have k2:=HK2.out.below hW
    exact ⟨k1.cell 0,k1.cell 1,k1.cell 4,k2.cell 0,k2.cell 1,k2.cell 2⟩)
   clear hb1 hq2 hw2 hb2 hk2 HD
   go_wp2_with fail
   rw [← HW2.out,← HQ2.out]
   obtain ⟨x1,hx1⟩:∃ y,y=w2.drew:=⟨_,rfl⟩
   have HX1:=Lib.hid (show Below w2.heap.size w2 x1 by rw [hx1];exact (Below.refl _ _).drew)
   have hT:=HTT.out x1 HX1.out
   have hS:True:=trivial
   refine wp_region_two (T:=fun W => W.cell? ⟨jr,0,none⟩=some (.int .i64 x.host)∧W.cell? ⟨jr,1,none⟩=some (.int .i64 x.next)∧W.cell? ⟨jr,4,none⟩=some (.int .i64 x.many)∧W.cell? ⟨q2,0,none⟩=some (.int .i64 ho)∧W.cell? ⟨q2,1,none⟩=some (.int .i64 fi)∧W.cell? ⟨q2,2,none⟩=some (.int .i64 nx)) (S:=fun _ => True) (n:=99) (by kernel_rfl) ?_
   rw [← hx1]
   clear hx1
   refine tk 0 16 hT hS ?_
   refine tk 1 17 hT hS ?_
   try simp only [xq]
   refine tk 2 18 hT hS ?_
   refine tk 3 19 hT hS ?_
   try simp only [xq]
   refine tk 4 20 hT hS ?_
   refine tk 5 21 hT hS ?_
   try simp only [xq]
   refine tk 6 22 hT hS ?_
   refine tk 7 23 hT hS ?_
   try simp only [xq]
   refine tk 8 24 hT hS ?_
   refine tk 9 25 hT hS ?_
   try simp only [xq]
   refine tk 10 26 hT hS ?_
   refine tk 11 27 hT hS ?_
   try simp only [xq]
   refine tk 12 28 hT hS ?_
   refine tk 13 29 hT hS ?_
   try simp only [xq]
   refine tk 14 30 hT hS ?_
   refine tk 15 31 hT hS ?_
   try simp only [xq]
   refine tk 16 32 hT hS ?_
   refine tk 17 33 hT hS ?_
   try simp only [xq]
   refine tk 18 34 hT hS ?_
   refine tk 19 35 hT hS ?_
   try simp only [xq]
   refine tk 20 36 hT hS ?_
   refine tk 21 37 hT hS ?_
   try simp only [xq]
   refine tk 22 38 hT hS ?_
   refine tk 23 39 hT hS ?_
   try simp only [xq]
   refine tk 24 40 hT hS ?_
   refine tk 25 41 hT hS ?_
   try simp only [xq]
   refine tk 26 42 hT hS ?_
   refine tk 27 43 hT hS ?_
   try simp only [xq]
   refine tk 28 44 hT hS ?_
   refine tk 29 45 hT hS ?_
   try simp only [xq]
   refine tk 30 46 hT hS ?_
   refine tk 31 47 hT hS ?_
   try simp only [xq]
   refine tk 32 48 hT hS ?_
   refine tk 33 49 hT hS ?_
   try simp only [xq]
   refine tk 34 50 hT hS ?_
   refine tk 35 51 hT hS ?_
   try simp only [xq]
   refine tk 36 52 hT hS ?_
   refine tk 37 53 hT hS ?_
   try simp only [xq]
   refine tk 38 54 hT hS ?_
   try simp only [xq]
   refine two_done (by kernel_rfl) ?_ _
   clear hT
   go_wp2_with fail
   refine bodyPost_ret (v:=.tuple #[.bool false,.int .i64 0]) (by simp [results,Tryz.results32,go_sem]) rfl ?_
   rw [HV.out]
   exact ⟨rfl,HKJ.out.below HX1.out,Chg.of_below (HB.out.trans (HX1.out.mono HB.out.size))⟩
  case pos =>
  have q4:(nx != x.next+x.many)=false:=by rw [t4];simp
  have HV:=Lib.hid (show tkR S x=((true,0),{ x with next:=nx,out:=noB,many:=0 }) from by unfold tkR;rw [HDA.out];simp only;rw [if_neg];intro h;rcases h with h | h | h | h;all_goals first | exact t1 h | exact h t2 | exact h t3 | exact h t4)
  clear t1 t2 t3 t4
  go_enter Tryz.func32,Tryz.ntmps32
  go_wp2_with fail
  refine HD.out.mono ?_
  rintro e w1 ⟨rfl,hb1⟩
  obtain ⟨q2,hq2⟩:∃ q,q=w1.heap.size:=⟨_,rfl⟩
  obtain ⟨w2,hw2⟩:∃ y,y=w1.alloc (.cells #[.int .i64 ho,.int .i64 fi,.int .i64 nx] 51 (0,0)):=⟨_,rfl⟩
  have hb2:Below w1.heap.size w1 w2:=by rw [hw2];exact (Below.refl _ _).alloc (Nat.le_refl _) _
  have hk2:Blk w2 q2 51 #[.int .i64 ho,.int .i64 fi,.int .i64 nx]:=by rw [hw2,hq2];exact Blk.alloc_new w1 _ _
  have HB:=Lib.hid (hb1.trans (hb2.mono hb1.size))
  have HKJ:=Lib.hid (HK.out.below HB.out)
  have HK2:=Lib.hid hk2
  have HW2:=Lib.hid hw2
  have HQ2:=Lib.hid hq2
  have HTT:=Lib.hid (fun (W:World) (hW:Below w2.heap.size w2 W) => show W.cell? ⟨jr,0,none⟩=some (.int .i64 x.host)∧W.cell? ⟨jr,1,none⟩=some (.int .i64 x.next)∧W.cell? ⟨jr,4,none⟩=some (.int .i64 x.many)∧W.cell? ⟨q2,0,none⟩=some (.int .i64 ho)∧W.cell? ⟨q2,1,none⟩=some (.int .i64 fi)∧W.cell? ⟨q2,2,none⟩=some (.int .i64 nx) from by
   have k1:=HKJ.out.below hW
   have k2:=HK2.out.below hW
   exact ⟨k1.cell 0,k1.cell 1,k1.cell 4,k2.cell 0,k2.cell 1,k2.cell 2⟩)
  clear hb1 hq2 hw2 hb2 hk2 HD
  go_wp2_with fail
  rw [← HW2.out,← HQ2.out]
  obtain ⟨x1,hx1⟩:∃ y,y=w2.drew:=⟨_,rfl⟩
  have HX1:=Lib.hid (show Below w2.heap.size w2 x1 by rw [hx1];exact (Below.refl _ _).drew)
  have hT:=HTT.out x1 HX1.out
  have hS:True:=trivial
  refine wp_region_two (T:=fun W => W.cell? ⟨jr,0,none⟩=some (.int .i64 x.host)∧W.cell? ⟨jr,1,none⟩=some (.int .i64 x.next)∧W.cell? ⟨jr,4,none⟩=some (.int .i64 x.many)∧W.cell? ⟨q2,0,none⟩=some (.int .i64 ho)∧W.cell? ⟨q2,1,none⟩=some (.int .i64 fi)∧W.cell? ⟨q2,2,none⟩=some (.int .i64 nx)) (S:=fun _ => True) (n:=99) (by kernel_rfl) ?_
  rw [← hx1]
  clear hx1
  refine tk 0 16 hT hS ?_
  refine tk 1 17 hT hS ?_
  try simp only [xq]
  refine tk 2 18 hT hS ?_
  refine tk 3 19 hT hS ?_
  try simp only [xq]
  refine tk 4 20 hT hS ?_
  refine tk 5 21 hT hS ?_
  try simp only [xq]
  refine tk 6 22 hT hS ?_
  refine tk 7 23 hT hS ?_
  try simp only [xq]
  refine tk 8 24 hT hS ?_
  refine tk 9 25 hT hS ?_
  try simp only [xq]
  refine tk 10 26 hT hS ?_
  refine tk 11 27 hT hS ?_
  try simp only [xq]
  refine tk 12 28 hT hS ?_
  refine tk 13 29 hT hS ?_
  try simp only [xq]
  refine tk 14 30 hT hS ?_
  refine tk 15 31 hT hS ?_
  try simp only [xq]
  refine tk 16 32 hT hS ?_
  refine tk 17 33 hT hS ?_
  try simp only [xq]
  refine tk 18 34 hT hS ?_
  refine tk 19 35 hT hS ?_
  try simp only [xq]
  refine tk 20 36 hT hS ?_
  refine tk 21 37 hT hS ?_
  try simp only [xq]
  refine tk 22 38 hT hS ?_
  refine tk 23 39 hT hS ?_
  try simp only [xq]
  refine tk 24 40 hT hS ?_
  refine tk 25 41 hT hS ?_
  try simp only [xq]
  refine tk 26 42 hT hS ?_
  refine tk 27 43 hT hS ?_
  try simp only [xq]
  refine tk 28 44 hT hS ?_
  refine tk 29 45 hT hS ?_
  try simp only [xq]
  refine tk 30 46 hT hS ?_
  refine tk 31 47 hT hS ?_
  try simp only [xq]
  refine tk 32 48 hT hS ?_
  refine tk 33 49 hT hS ?_
  try simp only [xq]
  refine tk 34 50 hT hS ?_
  refine tk 35 51 hT hS ?_
  try simp only [xq]
  refine tk 36 52 hT hS ?_
  refine tk 37 53 hT hS ?_
  try simp only [xq]
  refine tk 38 54 hT hS ?_
  try simp only [xq]
  refine two_done (by kernel_rfl) ?_ _
  clear hT
  have k1:=(HKJ.out.below HX1.out).set 1 (.int .i64 nx)
  have k2:=k1.set 4 (.int .i64 0)
  have k3:=k2.set 3 (.string ⟨#[]⟩)
  simp only [List.setIfInBounds_toArray,List.set_cons_zero,List.set_cons_succ] at k1 k2 k3
  have HK3:=Lib.hid k3
  have HCH:=Lib.hid ((((Chg.of_below (S:=fun k => k=jr) (HB.out.trans (HX1.out.mono HB.out.size))).setCell (p:=⟨jr,1,none⟩) (fun _ => rfl) (.int .i64 nx)).setCell (p:=⟨jr,4,none⟩) (fun _ => rfl) (.int .i64 0)).setCell (p:=⟨jr,3,none⟩) (fun _ => rfl) (.string ⟨#[]⟩))
  have f0:=(HKJ.out.below HX1.out).free 1
  have f1:=(HKJ.out.below HX1.out).free 4
  have f2:=(HKJ.out.below HX1.out).free 3
  obtain ⟨_,_,_,_,_,c2⟩:=HTT.out x1 HX1.out
  have c3:=(HKJ.out.below HX1.out).cell 3
  simp only [List.getElem?_toArray,List.getElem?_cons_zero,List.getElem?_cons_succ] at c3
  clear k1 k2 k3
  go_wp2_with fail
  refine bodyPost_ret (v:=.tuple #[.bool true,.int .i64 0]) (by simp [results,Tryz.results32,go_sem]) rfl ?_
  rw [HV.out]
  exact ⟨rfl,HK3.out,HCH.out⟩
end Go.Proofs.YtdacanghbepjpaaGreatDoor
namespace Go.Proofs.YtdacanghbepjpaaGreatDoor
set_option linter.unusedSimpArgs false
set_option linter.unusedVariables false
set_option maxRecDepth 100000
open Go.RowKit Go.Maps
open Dsk
theorem rdSp_part {w:World} {x:Option Addr} {n c:Nat} {l:List Sp.Span} (h:RdSp w (.slice x n c) l) (a b:Nat) (hab:a<b) (hb:b≤l.length):∃ ub uo,x=some ⟨ub,uo,none⟩∧ub<w.heap.size∧n=l.length∧n≤c∧RdSp w (.slice (some ⟨ub,uo+a*8,none⟩) (b-a) (c-a)) ((l.take b).drop a):=by
 obtain ⟨y,c2,hv,hc,hel⟩:=h
 injection hv with e1 e2 e3
 subst e1 e2 e3
 have hlen:((l.take b).drop a).length=b-a:=by rw [List.length_drop,List.length_take,Nat.min_eq_left hb]
 obtain ⟨ub,uo,rfl,hlt,_⟩:=hel a (by omega)
 refine ⟨ub,uo,rfl,hlt,rfl,hc,some ⟨ub,uo+a*8,none⟩,c-a,by rw [hlen],by rw [hlen];omega,fun j hj => ?_⟩
 rw [hlen] at hj
 obtain ⟨b2,o2,e,hb2,hc2⟩:=hel (a+j) (by omega)
 injection e with e
 injection e with e4 e5
 subst e4 e5
 refine ⟨ub,uo+a*8,rfl,hb2,fun i u hu => ?_⟩
 rw [List.getElem_drop,List.getElem_take] at hu
 rw [show uo+a*8+j*8+i=uo+(a+j)*8+i by rw [Nat.add_mul];omega]
 exact hc2 i u hu
theorem slice_off {ub uo n c jr:Nat} (h:¬ ub=jr):∀ k,(Value.slice (some ⟨ub,uo,none⟩) n c).ownBlock=some k→¬ k=jr:=fun k e => by
 injection e with e
 rw [← e]
 exact h
def StepD (jr:Nat) (w:World) (r:ByteArray×Dm) (e:Ending) (w':World):Prop:=e=.returned (.string r.1)∧(∃ v,Blk w' jr 71 (dmC r.2 v)∧(r.2.many>0→v=r.2.sent))∧Chg (fun k => k=jr) w w'
section
variable {w:World} {jr jl lc:Nat} {lx:Option Addr} {x:Dm} {v:Int} {fi su:Nat} {Ls:List Sp.Span}
set_option maxHeartbeats 8000000 in
theorem refStep_more (now:Int) (LV:Value) (hk:Blk w jr 71 (dmC x v)) (hm:x.many>0) (hv:v=x.sent) (hn:0≤now∧now≤1000000000000) (hs:0≤x.sent∧x.sent≤1000000000000) :
  Calls Tryz.prog 33 #[.pointer (some ⟨jr,0,none⟩),LV,.int .i64 now] w (StepD jr w (stpR fi su Ls now x)):=by
 have HK:=Lib.hid hk
 have c0:=hk.cell 0
 have c2:=hk.cell 2
 have c3:=hk.cell 3
 have c4:=hk.cell 4
 have c5:=hk.cell 5
 have f5:=hk.free 5
 unfold dmC at c0 c2 c3 c4 c5
 simp only [List.getElem?_toArray,List.getElem?_cons_zero,List.getElem?_cons_succ] at c0 c2 c3 c4 c5
 have q0:decide (x.many>0)=true:=decide_eq_true hm
 have q1:decide (0<x.many)=true:=decide_eq_true hm
 have hw:IntKind.i64.wrap (now-v)=now-v:=by rw [hv,IntKind.wrap_i64];omega
 have HM:=Lib.hid hm
 have HV:=Lib.hid hv
 by_cases h3:now-x.sent<3
 · have e:stpR fi su Ls now x=(noB,x):=by unfold stpR;rw [if_pos hm,if_pos h3]
   have HE:=Lib.hid e
   have q3:decide (now-v<3)=true:=decide_eq_true (by rw [hv];exact h3)
   clear e h3 hm hv hk
   go_enter Tryz.func33,Tryz.ntmps33
   go_wp2_with fail
   go_ret
   unfold StepD
   rw [HE.out]
   exact ⟨rfl,⟨v,HK.out,fun _ => HV.out⟩,Chg.refl _ _⟩
 · have e:stpR fi su Ls now x=(x.out,{ x with sent:=now }):=by unfold stpR;rw [if_pos hm,if_neg h3]
   have HE:=Lib.hid e
   have q3:decide (now-v<3)=false:=decide_eq_false (by rw [hv];exact h3)
   have k5:=hk.set 5 (.int .i64 now)
   unfold dmC at k5
   simp only [List.setIfInBounds_toArray,List.set_cons_zero,List.set_cons_succ] at k5
   have HK5:=Lib.hid k5
   have HCH:=Lib.hid ((Chg.refl (fun k => k=jr) w).setCell (p:=⟨jr,5,none⟩) (fun _ => rfl) (.int .i64 now))
   clear e h3 hm hv hk k5
   go_enter Tryz.func33,Tryz.ntmps33
   go_wp2_with fail
   go_ret
   unfold StepD
   rw [HE.out]
   exact ⟨rfl,⟨now,HK5.out,fun _ => rfl⟩,HCH.out⟩
set_option maxHeartbeats 16000000 in
theorem refStep_none (now:Int) (hk:Blk w jr 71 (dmC x v)) (hl:Blk w jl 74 #[.int .i64 fi,.int .i64 su,.slice lx Ls.length lc]) (hne:jl≠jr) (hm:x.many=0) (ho:x.out=noB) (hsu:(su:Int)≤atR fi x) (hb:0≤x.next∧x.next≤1000000000000∧0≤x.gap∧x.gap≤1000000000000∧fi≤1000000000000) :
  Calls Tryz.prog 33 #[.pointer (some ⟨jr,0,none⟩),.pointer (some ⟨jl,0,none⟩),.int .i64 now] w (StepD jr w (stpR fi su Ls now x)):=by
 have HK:=Lib.hid hk
 have HL:=Lib.hid hl
 have HNE:=Lib.hid hne
 have HSU:=Lib.hid hsu
 have c4:=hk.cell 4
 unfold dmC at c4
 simp only [List.getElem?_toArray,List.getElem?_cons_zero,List.getElem?_cons_succ] at c4
 have q0:decide (x.many>0)=false:=decide_eq_false (by omega)
 have q1:decide (0<x.many)=false:=decide_eq_false (by omega)
 have HM:=Lib.hid (And.intro ho hm)
 have HE:=Lib.hid (show stpR fi su Ls now x=(noB,⟨x.host,atR fi x,x.gap+(atR fi x-x.next),noB,0,now⟩) by unfold stpR;rw [if_neg (by omega),if_pos hsu])
 have hw1:IntKind.i64.wrap (x.gap+fi)=x.gap+fi:=by rw [IntKind.wrap_i64];omega
 have hw2:IntKind.i64.wrap (x.gap+fi-x.next)=x.gap+fi-x.next:=by rw [IntKind.wrap_i64];omega
 by_cases hsk:x.next<fi
 · have HSK:=Lib.hid hsk
   have q2:decide (x.next<fi)=true:=decide_eq_true hsk
   clear hk hl hne hm ho hsu hsk hb
   go_enter Tryz.func33,Tryz.ntmps33
   go_wp2_with fail
   clear c4 q0 q1
   obtain ⟨x1,hx1⟩:∃ y,y=w.drew:=⟨_,rfl⟩
   have HX1:=Lib.hid (show Below w.heap.size w x1 by rw [hx1];exact (Below.refl _ _).drew)
   have hT:x1.cell? ⟨jr,1,none⟩=some (.int .i64 x.next)∧x1.cell? ⟨jl,0,none⟩=some (.int .i64 fi):=⟨(HK.out.below HX1.out).cell 1,(HL.out.below HX1.out).cell 0⟩
   have hS:True:=trivial
   refine wp_region_two (T:=fun W => W.cell? ⟨jr,1,none⟩=some (.int .i64 x.next)∧W.cell? ⟨jl,0,none⟩=some (.int .i64 fi)) (S:=fun _ => True) (n:=99) (by kernel_rfl) ?_
   rw [← hx1]
   clear hx1
   refine tk 0 28 hT hS ?_
   refine tk 1 29 hT hS ?_
   try simp only [xq]
   refine tk 2 30 hT hS ?_
   refine tk 3 31 hT hS ?_
   try simp only [xq]
   refine tk 4 32 hT hS ?_
   refine tk 5 33 hT hS ?_
   try simp only [xq]
   refine tk 6 34 hT hS ?_
   refine tk 7 35 hT hS ?_
   try simp only [xq]
   refine tk 8 36 hT hS ?_
   refine tk 9 37 hT hS ?_
   try simp only [xq]
   refine two_done (by kernel_rfl) ?_ _
   clear hT
   obtain ⟨x2,hx2⟩:∃ y,y=x1.drew:=⟨_,rfl⟩
   have HX2:=Lib.hid (show Below w.heap.size w x2 by rw [hx2];exact HX1.out.drew)
   have hT:x2.cell? ⟨jl,0,none⟩=some (.int .i64 fi):=(HL.out.below HX2.out).cell 0
   have hS2:x2.cell? ⟨jr,1,none⟩=some (.int .i64 x.next)∧x2.cell? ⟨jr,2,none⟩=some (.int .i64 x.gap):=⟨(HK.out.below HX2.out).cell 1,(HK.out.below HX2.out).cell 2⟩
   clear hS
   have hS:=hS2
   clear hS2
   go_wp2_with fail
   refine wp_region_two (T:=fun W => W.cell? ⟨jl,0,none⟩=some (.int .i64 fi)) (S:=fun W => W.cell? ⟨jr,1,none⟩=some (.int .i64 x.next)∧W.cell? ⟨jr,2,none⟩=some (.int .i64 x.gap)) (n:=24) (by kernel_rfl) ?_
   rw [← hx2]
   clear hx2
   refine tk 0 38 hT hS ?_
   refine tk 1 39 hT hS ?_
   try simp only [xq]
   refine tk 2 40 hT hS ?_
   refine tk 3 41 hT hS ?_
   try simp only [xq]
   refine tk 4 42 hT hS ?_
   refine tk 5 43 hT hS ?_
   try simp only [xq]
   refine tk 6 44 hT hS ?_
   refine tk 7 45 hT hS ?_
   try simp only [xq]
   refine tk 8 46 hT hS ?_
   try simp only [xq]
   refine two_take 9 (some 47) (v:=?_) rfl rfl (by kernel_rfl) (by kernel_rfl) (by kernel_rfl) (by kernel_rfl) (by decide) (by kernel_rfl) (fun _ _ _ h => h) (Or.inl ⟨by rfl,?hy9⟩) hT hS ?_
   case hy9 => (intro w' hS';(try unfold S8 at hS');(try unfold T8 at hS');go_simp;(try with_reducible rfl))
   try simp only [xq]
   refine tk 10 48 hT hS ?_
   refine tk 11 49 hT hS ?_
   try simp only [xq]
   refine tk 12 50 hT hS ?_
   refine tk 13 51 hT hS ?_
   try simp only [xq]
   refine tk 14 52 hT hS ?_
   refine tk 15 53 hT hS ?_
   try simp only [xq]
   refine tk 16 54 hT hS ?_
   refine tk 17 55 hT hS ?_
   try simp only [xq]
   refine tk 18 56 hT hS ?_
   try simp only [xq]
   refine two_take 19 (some 57) (v:=?_) rfl rfl (by kernel_rfl) (by kernel_rfl) (by kernel_rfl) (by kernel_rfl) (by decide) (by kernel_rfl) (fun _ _ _ h => h) (Or.inl ⟨by rfl,?hy19⟩) hT hS ?_
   case hy19 => (intro w' hS';(try unfold S8 at hS');(try unfold T8 at hS');go_simp;(try with_reducible rfl))
   try simp only [xq]
   refine tk 20 58 hT hS ?_
   refine tk 21 59 hT hS ?_
   try simp only [xq]
   refine tk 22 60 hT hS ?_
   refine tk 23 61 hT hS ?_
   try simp only [xq]
   have k9:=((HK.out.below HX2.out).set 1 (.int .i64 (fi:Int))).set 2 (.int .i64 (x.gap+fi-x.next))
   have hb9:=(HL.out.below HX2.out)
   have hb8:=(hb9.set_ot jr 1 (.int .i64 (fi:Int)) HNE.out).set_ot jr 2 (.int .i64 (x.gap+fi-x.next)) HNE.out
   have hc9:=((Chg.of_below (S:=fun k => k=jr) HX2.out).setCell (p:=⟨jr,1,none⟩) (fun _ => rfl) (.int .i64 (fi:Int))).setCell (p:=⟨jr,2,none⟩) (fun _ => rfl) (.int .i64 (x.gap+fi-x.next))
   unfold dmC at k9
   simp only [List.setIfInBounds_toArray,List.set_cons_zero,List.set_cons_succ] at k9
   have f1:=(HK.out.below HX2.out).free 1
   have f2:=(HK.out.below HX2.out).free 2
   obtain ⟨c1,c2⟩:=hS
   refine two_one 24 rfl (by kernel_rfl) ?_
   intro K0 hK0
   go_simp
   obtain ⟨y,hy⟩:∃ y,y=(x2.setCell ⟨jr,1,none⟩ (.int .i64 (fi:Int))).setCell ⟨jr,2,none⟩ (.int .i64 (x.gap+fi-x.next)):=⟨_,rfl⟩
   rw [← hy] at k9 hb8 hc9 ⊢
   have hT3:y.cell? ⟨jl,0,none⟩=some (.int .i64 fi):=hb8.cell 0
   refine hK0.out _ _ hT3 (fun _ e => absurd rfl e) ?_
   clear hK0 K0 hT hy f1 f2 c1 c2 hb9
   try simp only [xq]
   refine two_done (by kernel_rfl) ?_ _
   obtain ⟨a,ha⟩:∃ a:Int,a=(fi:Int):=⟨_,rfl⟩
   obtain ⟨g,hg⟩:∃ g:Int,g=x.gap+fi-x.next:=⟨_,rfl⟩
   rw [← hg,← ha] at k9
   have HKY:=Lib.hid k9
   have HLY:=Lib.hid hb8
   have HCY:=Lib.hid hc9
   have HA:=Lib.hid (show a=atR fi x∧g=x.gap+(atR fi x-x.next) by rw [ha,hg];have:=HSK.out;unfold atR;omega)
   have HS0:True:=trivial
   clear hT3 k9 hb8 hc9 ha hg
   have hS:True:=trivial
   go_wp2_with fail
   have q8:decide (a≥su)=true:=decide_eq_true (by have:=HA.out.1;have:=HSU.out;omega)
   have q9:decide ((su:Int)≤a)=true:=decide_eq_true (by have:=HA.out.1;have:=HSU.out;omega)
   obtain ⟨x3,hx3⟩:∃ z,z=y.drew:=⟨_,rfl⟩
   have HX3:=Lib.hid (show Below y.heap.size y x3 by rw [hx3];exact (Below.refl _ _).drew)
   have hT:x3.cell? ⟨jr,1,none⟩=some (.int .i64 a)∧x3.cell? ⟨jl,1,none⟩=some (.int .i64 su):=⟨(HKY.out.below HX3.out).cell 1,(HLY.out.below HX3.out).cell 1⟩
   refine wp_region_two (T:=fun W => W.cell? ⟨jr,1,none⟩=some (.int .i64 a)∧W.cell? ⟨jl,1,none⟩=some (.int .i64 su)) (S:=fun _ => True) (n:=99) (by kernel_rfl) ?_
   rw [← hx3]
   clear hx3
   refine tk 0 62 hT hS ?_
   refine tk 1 63 hT hS ?_
   try simp only [xq]
   refine tk 2 64 hT hS ?_
   refine tk 3 65 hT hS ?_
   try simp only [xq]
   refine tk 4 66 hT hS ?_
   refine tk 5 67 hT hS ?_
   try simp only [xq]
   refine tk 6 68 hT hS ?_
   refine tk 7 69 hT hS ?_
   try simp only [xq]
   refine tk 8 70 hT hS ?_
   refine tk 9 71 hT hS ?_
   try simp only [xq]
   refine two_done (by kernel_rfl) ?_ _
   clear hT
   go_wp2_with fail
   go_ret
   unfold StepD
   rw [HE.out]
   refine ⟨rfl,⟨v,?_,fun e => absurd (show (0:Int)<0 from e) (by decide)⟩,HCY.out.trans (Chg.of_below HX3.out)⟩
   have k:=HKY.out.below HX3.out
   unfold dmC
   rw [HM.out.1,HM.out.2,HA.out.1,HA.out.2] at k
   exact k
 · have HSK:=Lib.hid (show ¬ x.next<fi from hsk)
   have q2:decide (x.next<fi)=false:=decide_eq_false hsk
   clear hk hl hne hm ho hsu hsk hb
   go_enter Tryz.func33,Tryz.ntmps33
   go_wp2_with fail
   clear c4 q0 q1
   obtain ⟨x1,hx1⟩:∃ y,y=w.drew:=⟨_,rfl⟩
   have HX1:=Lib.hid (show Below w.heap.size w x1 by rw [hx1];exact (Below.refl _ _).drew)
   have hT:x1.cell? ⟨jr,1,none⟩=some (.int .i64 x.next)∧x1.cell? ⟨jl,0,none⟩=some (.int .i64 fi):=⟨(HK.out.below HX1.out).cell 1,(HL.out.below HX1.out).cell 0⟩
   have hS:True:=trivial
   refine wp_region_two (T:=fun W => W.cell? ⟨jr,1,none⟩=some (.int .i64 x.next)∧W.cell? ⟨jl,0,none⟩=some (.int .i64 fi)) (S:=fun _ => True) (n:=99) (by kernel_rfl) ?_
   rw [← hx1]
   clear hx1
   refine tk 0 28 hT hS ?_
   refine tk 1 29 hT hS ?_
   try simp only [xq]
   refine tk 2 30 hT hS ?_
   refine tk 3 31 hT hS ?_
   try simp only [xq]
   refine tk 4 32 hT hS ?_
   refine tk 5 33 hT hS ?_
   try simp only [xq]
   refine tk 6 34 hT hS ?_
   refine tk 7 35 hT hS ?_
   try simp only [xq]
   refine tk 8 36 hT hS ?_
   refine tk 9 37 hT hS ?_
   try simp only [xq]
   refine two_done (by kernel_rfl) ?_ _
   clear hT
   obtain ⟨y,hy⟩:∃ y,y=x1:=⟨_,rfl⟩
   have k9:=HK.out.below HX1.out
   have hb8:=HL.out.below HX1.out
   have hc9:=Chg.of_below (S:=fun k => k=jr) HX1.out
   rw [← hy] at k9 hb8 hc9 ⊢
   obtain ⟨a,ha⟩:∃ a:Int,a=x.next:=⟨_,rfl⟩
   obtain ⟨g,hg⟩:∃ g:Int,g=x.gap:=⟨_,rfl⟩
   unfold dmC at k9
   rw [← ha,← hg] at k9
   have HKY:=Lib.hid k9
   have HLY:=Lib.hid hb8
   have HCY:=Lib.hid hc9
   have HA:=Lib.hid (show a=atR fi x∧g=x.gap+(atR fi x-x.next) by rw [ha,hg];have:=HSK.out;unfold atR;omega)
   clear k9 hb8 hc9 ha hg hy
   go_wp2_with fail
   have q8:decide (a≥su)=true:=decide_eq_true (by have:=HA.out.1;have:=HSU.out;omega)
   have q9:decide ((su:Int)≤a)=true:=decide_eq_true (by have:=HA.out.1;have:=HSU.out;omega)
   obtain ⟨x3,hx3⟩:∃ z,z=y.drew:=⟨_,rfl⟩
   have HX3:=Lib.hid (show Below y.heap.size y x3 by rw [hx3];exact (Below.refl _ _).drew)
   have hT:x3.cell? ⟨jr,1,none⟩=some (.int .i64 a)∧x3.cell? ⟨jl,1,none⟩=some (.int .i64 su):=⟨(HKY.out.below HX3.out).cell 1,(HLY.out.below HX3.out).cell 1⟩
   refine wp_region_two (T:=fun W => W.cell? ⟨jr,1,none⟩=some (.int .i64 a)∧W.cell? ⟨jl,1,none⟩=some (.int .i64 su)) (S:=fun _ => True) (n:=99) (by kernel_rfl) ?_
   rw [← hx3]
   clear hx3
   refine tk 0 62 hT hS ?_
   refine tk 1 63 hT hS ?_
   try simp only [xq]
   refine tk 2 64 hT hS ?_
   refine tk 3 65 hT hS ?_
   try simp only [xq]
   refine tk 4 66 hT hS ?_
   refine tk 5 67 hT hS ?_
   try simp only [xq]
   refine tk 6 68 hT hS ?_
   refine tk 7 69 hT hS ?_
   try simp only [xq]
   refine tk 8 70 hT hS ?_
   refine tk 9 71 hT hS ?_
   try simp only [xq]
   refine two_done (by kernel_rfl) ?_ _
   clear hT
   go_wp2_with fail
   go_ret
   unfold StepD
   rw [HE.out]
   refine ⟨rfl,⟨v,?_,fun e => absurd (show (0:Int)<0 from e) (by decide)⟩,HCY.out.trans (Chg.of_below HX3.out)⟩
   have k:=HKY.out.below HX3.out
   unfold dmC
   rw [HM.out.1,HM.out.2,HA.out.1,HA.out.2] at k
   exact k
set_option maxHeartbeats 16000000 in
theorem refStep_sends (now:Int) (hk:Blk w jr 71 (dmC x v)) (hl:Blk w jl 74 #[.int .i64 fi,.int .i64 su,.slice lx Ls.length lc]) (hne:jl≠jr) (hr:RdSp w (.slice lx Ls.length lc) Ls) (hlv:∀ k,(Value.slice lx Ls.length lc).ownBlock=some k→¬ k=jr) (hm:x.many=0) (hsu:¬ (su:Int)≤atR fi x) (hb:0≤x.next∧x.next≤1000000000000∧0≤x.gap∧x.gap≤1000000000000∧fi≤1000000000000) (hs9:su≤Ls.length∧su≤2147483647) (hh:Po.HostOk x.host) (hpg:Paged Ls (atR fi x).toNat su (pgR Ls (atR fi x).toNat su)) :
  Calls Tryz.prog 33 #[.pointer (some ⟨jr,0,none⟩),.pointer (some ⟨jl,0,none⟩),.int .i64 now] w (StepD jr w (stpR fi su Ls now x)):=by
 have HK:=Lib.hid hk
 have HL:=Lib.hid hl
 have HNE:=Lib.hid hne
 have HSU:=Lib.hid hsu
 have HR:=Lib.hid hr
 have HLV:=Lib.hid hlv
 have HS9:=Lib.hid hs9
 have HHO:=Lib.hid hh
 have HPG:=Lib.hid hpg
 have HB0:=Lib.hid hb.1
 have c4:=hk.cell 4
 unfold dmC at c4
 simp only [List.getElem?_toArray,List.getElem?_cons_zero,List.getElem?_cons_succ] at c4
 have q0:decide (x.many>0)=false:=decide_eq_false (by omega)
 have q1:decide (0<x.many)=false:=decide_eq_false (by omega)
 have HE:=Lib.hid (show stpR fi su Ls now x=(batchB x.host (atR fi x) (pgR Ls (atR fi x).toNat su),⟨x.host,atR fi x,x.gap+(atR fi x-x.next),batchB x.host (atR fi x) (pgR Ls (atR fi x).toNat su),(pgR Ls (atR fi x).toNat su).length,now⟩) by unfold stpR;rw [if_neg (by omega),if_neg hsu])
 have hw1:IntKind.i64.wrap (x.gap+fi)=x.gap+fi:=by rw [IntKind.wrap_i64];omega
 have hw2:IntKind.i64.wrap (x.gap+fi-x.next)=x.gap+fi-x.next:=by rw [IntKind.wrap_i64];omega
 have HUB:=Lib.hid (show ∀ ub uo:Nat,lx=some ⟨ub,uo,none⟩→¬ ub=jr from fun ub uo e => hlv ub (by rw [e];rfl))
 by_cases hsk:x.next<fi
 · have HSK:=Lib.hid hsk
   have q2:decide (x.next<fi)=true:=decide_eq_true hsk
   clear hk hl hne hm hsu hsk hb hr hlv hs9 hh hpg
   go_enter Tryz.func33,Tryz.ntmps33
   go_wp2_with fail
   clear c4 q0 q1
   obtain ⟨x1,hx1⟩:∃ y,y=w.drew:=⟨_,rfl⟩
   have HX1:=Lib.hid (show Below w.heap.size w x1 by rw [hx1];exact (Below.refl _ _).drew)
   have hT:x1.cell? ⟨jr,1,none⟩=some (.int .i64 x.next)∧x1.cell? ⟨jl,0,none⟩=some (.int .i64 fi):=⟨(HK.out.below HX1.out).cell 1,(HL.out.below HX1.out).cell 0⟩
   have hS:True:=trivial
   refine wp_region_two (T:=fun W => W.cell? ⟨jr,1,none⟩=some (.int .i64 x.next)∧W.cell? ⟨jl,0,none⟩=some (.int .i64 fi)) (S:=fun _ => True) (n:=99) (by kernel_rfl) ?_
   rw [← hx1]
   clear hx1
   refine tk 0 28 hT hS ?_
   refine tk 1 29 hT hS ?_
   try simp only [xq]
   refine tk 2 30 hT hS ?_
   refine tk 3 31 hT hS ?_
   try simp only [xq]
   refine tk 4 32 hT hS ?_
   refine tk 5 33 hT hS ?_
   try simp only [xq]
   refine tk 6 34 hT hS ?_
   refine tk 7 35 hT hS ?_
   try simp only [xq]
   refine tk 8 36 hT hS ?_
   refine tk 9 37 hT hS ?_
   try simp only [xq]
   refine two_done (by kernel_rfl) ?_ _
   clear hT
   obtain ⟨x2,hx2⟩:∃ y,y=x1.drew:=⟨_,rfl⟩
   have HX2:=Lib.hid (show Below w.heap.size w x2 by rw [hx2];exact HX1.out.drew)
   have hT:x2.cell? ⟨jl,0,none⟩=some (.int .i64 fi):=(HL.out.below HX2.out).cell 0
   have hS2:x2.cell? ⟨jr,1,none⟩=some (.int .i64 x.next)∧x2.cell? ⟨jr,2,none⟩=some (.int .i64 x.gap):=⟨(HK.out.below HX2.out).cell 1,(HK.out.below HX2.out).cell 2⟩
   clear hS
   have hS:=hS2
   clear hS2
   go_wp2_with fail
   refine wp_region_two (T:=fun W => W.cell? ⟨jl,0,none⟩=some (.int .i64 fi)) (S:=fun W => W.cell? ⟨jr,1,none⟩=some (.int .i64 x.next)∧W.cell? ⟨jr,2,none⟩=some (.int .i64 x.gap)) (n:=24) (by kernel_rfl) ?_
   rw [← hx2]
   clear hx2
   refine tk 0 38 hT hS ?_
   refine tk 1 39 hT hS ?_
   try simp only [xq]
   refine tk 2 40 hT hS ?_
   refine tk 3 41 hT hS ?_
   try simp only [xq]
   refine tk 4 42 hT hS ?_
   refine tk 5 43 hT hS ?_
   try simp only [xq]
   refine tk 6 44 hT hS ?_
   refine tk 7 45 hT hS ?_
   try simp only [xq]
   refine tk 8 46 hT hS ?_
   try simp only [xq]
   refine two_take 9 (some 47) (v:=?_) rfl rfl (by kernel_rfl) (by kernel_rfl) (by kernel_rfl) (by kernel_rfl) (by decide) (by kernel_rfl) (fun _ _ _ h => h) (Or.inl ⟨by rfl,?hy9⟩) hT hS ?_
   case hy9 => (intro w' hS';(try unfold S8 at hS');(try unfold T8 at hS');go_simp;(try with_reducible rfl))
   try simp only [xq]
   refine tk 10 48 hT hS ?_
   refine tk 11 49 hT hS ?_
   try simp only [xq]
   refine tk 12 50 hT hS ?_
   refine tk 13 51 hT hS ?_
   try simp only [xq]
   refine tk 14 52 hT hS ?_
   refine tk 15 53 hT hS ?_
   try simp only [xq]
   refine tk 16 54 hT hS ?_
   refine tk 17 55 hT hS ?_
   try simp only [xq]
   refine tk 18 56 hT hS ?_
   try simp only [xq]
   refine two_take 19 (some 57) (v:=?_) rfl rfl (by kernel_rfl) (by kernel_rfl) (by kernel_rfl) (by kernel_rfl) (by decide) (by kernel_rfl) (fun _ _ _ h => h) (Or.inl ⟨by rfl,?hy19⟩) hT hS ?_
   case hy19 => (intro w' hS';(try unfold S8 at hS');(try unfold T8 at hS');go_simp;(try with_reducible rfl))
   try simp only [xq]
   refine tk 20 58 hT hS ?_
   refine tk 21 59 hT hS ?_
   try simp only [xq]
   refine tk 22 60 hT hS ?_
   refine tk 23 61 hT hS ?_
   try simp only [xq]
   have k9:=((HK.out.below HX2.out).set 1 (.int .i64 (fi:Int))).set 2 (.int .i64 (x.gap+fi-x.next))
   have hb9:=(HL.out.below HX2.out)
   have hb8:=(hb9.set_ot jr 1 (.int .i64 (fi:Int)) HNE.out).set_ot jr 2 (.int .i64 (x.gap+fi-x.next)) HNE.out
   have hc9:=((Chg.of_below (S:=fun k => k=jr) HX2.out).setCell (p:=⟨jr,1,none⟩) (fun _ => rfl) (.int .i64 (fi:Int))).setCell (p:=⟨jr,2,none⟩) (fun _ => rfl) (.int .i64 (x.gap+fi-x.next))
   unfold dmC at k9
   simp only [List.setIfInBounds_toArray,List.set_cons_zero,List.set_cons_succ] at k9
   have f1:=(HK.out.below HX2.out).free 1
   have f2:=(HK.out.below HX2.out).free 2
   obtain ⟨c1,c2⟩:=hS
   refine two_one 24 rfl (by kernel_rfl) ?_
   intro K0 hK0
   go_simp
   obtain ⟨y,hy⟩:∃ y,y=(x2.setCell ⟨jr,1,none⟩ (.int .i64 (fi:Int))).setCell ⟨jr,2,none⟩ (.int .i64 (x.gap+fi-x.next)):=⟨_,rfl⟩
   rw [← hy] at k9 hb8 hc9 ⊢
   have hT3:y.cell? ⟨jl,0,none⟩=some (.int .i64 fi):=hb8.cell 0
   refine hK0.out _ _ hT3 (fun _ e => absurd rfl e) ?_
   clear hK0 K0 hT hy f1 f2 c1 c2 hb9
   try simp only [xq]
   refine two_done (by kernel_rfl) ?_ _
   obtain ⟨a,ha⟩:∃ a:Int,a=(fi:Int):=⟨_,rfl⟩
   obtain ⟨g,hg⟩:∃ g:Int,g=x.gap+fi-x.next:=⟨_,rfl⟩
   rw [← hg,← ha] at k9
   have HKY:=Lib.hid k9
   have HLY:=Lib.hid hb8
   have HCY:=Lib.hid hc9
   have HA:=Lib.hid (show a=atR fi x∧g=x.gap+(atR fi x-x.next) by rw [ha,hg];have:=HSK.out;unfold atR;omega)
   have HS0:True:=trivial
   clear hT3 k9 hb8 hc9 ha hg
   have hS:True:=trivial
   go_wp2_with fail
   obtain ⟨an,rfl⟩:∃ n:Nat,a=n:=⟨a.toNat,by have h1:=HA.out.1;have h2:=HB0.out;unfold atR at h1;omega⟩
   have q8:decide ((an:Int)≥su)=false:=decide_eq_false (by have:=HA.out.1;have:=HSU.out;omega)
   have q9:decide ((su:Int)≤an)=false:=decide_eq_false (by have:=HA.out.1;have:=HSU.out;omega)
   have q10:decide (su≤an)=false:=decide_eq_false (by have:=HA.out.1;have:=HSU.out;omega)
   have HAN:=Lib.hid (show an<su by have:=HA.out.1;have:=HSU.out;omega)
   obtain ⟨bn,hbn⟩:∃ bn:Nat,bn=min (an+8) su:=⟨_,rfl⟩
   have hmin:min ((an:Int)+8) (su:Int)=(bn:Int):=by rw [hbn];omega
   have HAB:=Lib.hid (show an<bn∧bn≤su∧bn≤an+8 by have:=HAN.out;omega)
   have hwa:IntKind.i64.wrap ((an:Int)+8)=(an:Int)+8:=by rw [IntKind.wrap_i64];have:=HAN.out;have:=HS9.out;omega
   have hwb:IntKind.i64.wrap ((bn:Int)-an)=(bn:Int)-an:=by rw [IntKind.wrap_i64];have:=HAB.out;have:=HS9.out;omega
   have hat:(atR fi x).toNat=an:=by rw [← HA.out.1];exact Int.toNat_natCast an
   have hpg:=HPG.out
   rw [hat] at hpg
   obtain ⟨ub,uo,hlx,hub,hln,hlc,hrp⟩:=rdSp_part (HR.out.chg HCY.out HLV.out) an bn HAB.out.1 (by have:=HAB.out;have:=HS9.out;omega)
   subst hlx
   have hpe:(Ls.take bn).drop an=pgR Ls an su:=by unfold pgR;rw [hbn]
   rw [hpe] at hrp
   have HPE:=Lib.hid (And.intro hpg hat)
   have HRP:=Lib.hid hrp
   have hl1:(an:Int)≤bn:=by have:=HAB.out;omega
   have hl2:bn≤lc:=by have:=HAB.out;have:=HS9.out;omega
   have hl3:(bn:Int)≤lc:=by omega
   have hl4:an≤bn:=by have:=HAB.out;omega
   have hl5:((bn:Int)-(an:Int)).toNat=bn-an:=by omega
   have hl6:¬ lc=an:=by have:=HAB.out;have:=HS9.out;omega
   have HBN:=Lib.hid hbn
   clear hbn hat hpg hrp hpe
   obtain ⟨x3,hx3⟩:∃ z,z=y.drew:=⟨_,rfl⟩
   have HX3:=Lib.hid (show Below y.heap.size y x3 by rw [hx3];exact (Below.refl _ _).drew)
   have hT:x3.cell? ⟨jr,1,none⟩=some (.int .i64 an)∧x3.cell? ⟨jl,1,none⟩=some (.int .i64 su):=⟨(HKY.out.below HX3.out).cell 1,(HLY.out.below HX3.out).cell 1⟩
   refine wp_region_two (T:=fun W => W.cell? ⟨jr,1,none⟩=some (.int .i64 an)∧W.cell? ⟨jl,1,none⟩=some (.int .i64 su)) (S:=fun _ => True) (n:=99) (by kernel_rfl) ?_
   rw [← hx3]
   clear hx3
   refine tk 0 62 hT hS ?_
   refine tk 1 63 hT hS ?_
   try simp only [xq]
   refine tk 2 64 hT hS ?_
   refine tk 3 65 hT hS ?_
   try simp only [xq]
   refine tk 4 66 hT hS ?_
   refine tk 5 67 hT hS ?_
   try simp only [xq]
   refine tk 6 68 hT hS ?_
   refine tk 7 69 hT hS ?_
   try simp only [xq]
   refine tk 8 70 hT hS ?_
   refine tk 9 71 hT hS ?_
   try simp only [xq]
   refine two_done (by kernel_rfl) ?_ _
   clear hT
   obtain ⟨x4,hx4⟩:∃ z,z=x3.drew:=⟨_,rfl⟩
   have HX4:=Lib.hid (show Below y.heap.size y x4 by rw [hx4];exact HX3.out.drew)
   have hT:x4.cell? ⟨jr,1,none⟩=some (.int .i64 an)∧x4.cell? ⟨jl,1,none⟩=some (.int .i64 su):=⟨(HKY.out.below HX4.out).cell 1,(HLY.out.below HX4.out).cell 1⟩
   go_wp2_with fail
   refine wp_region_two (T:=fun W => W.cell? ⟨jr,1,none⟩=some (.int .i64 an)∧W.cell? ⟨jl,1,none⟩=some (.int .i64 su)) (S:=fun _ => True) (n:=99) (by kernel_rfl) ?_
   rw [← hx4]
   clear hx4
   refine tk 0 72 hT hS ?_
   refine tk 1 73 hT hS ?_
   try simp only [xq]
   refine tk 2 74 hT hS ?_
   refine tk 3 75 hT hS ?_
   try simp only [xq]
   refine tk 4 76 hT hS ?_
   refine tk 5 77 hT hS ?_
   try simp only [xq]
   refine tk 6 78 hT hS ?_
   refine tk 7 79 hT hS ?_
   try simp only [xq]
   refine tk 8 80 hT hS ?_
   refine tk 9 81 hT hS ?_
   try simp only [xq]
   refine tk 10 82 hT hS ?_
   refine tk 11 7 hT hS ?_
   try simp only [xq]
   refine two_done (by kernel_rfl) ?_ _
   obtain ⟨c1,_⟩:=hT
   have f4:=(HKY.out.below HX4.out).free 4
   have c4:=(HKY.out.below HX4.out).cell 4
   simp only [List.getElem?_toArray,List.getElem?_cons_zero,List.getElem?_cons_succ] at c4
   have k5:=(HKY.out.below HX4.out).set 4 (.int .i64 ((bn:Int)-an))
   have l5:=(HLY.out.below HX4.out).set_ot jr 4 (.int .i64 ((bn:Int)-an)) HNE.out
   have g5:=(HCY.out.trans (Chg.of_below HX4.out)).setCell (p:=⟨jr,4,none⟩) (fun _ => rfl) (.int .i64 ((bn:Int)-an))
   have h5:=(Chg.of_below (S:=fun k => k=jr) HX4.out).setCell (p:=⟨jr,4,none⟩) (fun _ => rfl) (.int .i64 ((bn:Int)-an))
   simp only [List.setIfInBounds_toArray,List.set_cons_zero,List.set_cons_succ] at k5
   obtain ⟨y5,hy5⟩:∃ z,z=x4.setCell ⟨jr,4,none⟩ (.int .i64 ((bn:Int)-an)):=⟨_,rfl⟩
   rw [← hy5] at k5 l5 g5 h5
   have HK5:=Lib.hid k5
   have HL5:=Lib.hid l5
   have HC5:=Lib.hid g5
   have HR5:=Lib.hid (HRP.out.chg h5 (slice_off (HUB.out _ _ rfl)))
   have HY5:=Lib.hid hy5
   obtain ⟨x6,hx6⟩:∃ z,z=y5.drew:=⟨_,rfl⟩
   have HX6:=Lib.hid (show Below y5.heap.size y5 x6 by rw [hx6];exact (Below.refl _ _).drew)
   have HX6E:=Lib.hid hx6
   clear k5 l5 g5 h5 hy5 hx6
   go_wp2_with fail
   rw [← HY5.out]
   clear c1 f4 c4
   have HTT:=Lib.hid (fun (W:World) (hW:Below y5.heap.size y5 W) => show W.cell? ⟨jr,0,none⟩=some (.int .i64 x.host)∧W.cell? ⟨jr,1,none⟩=some (.int .i64 an)∧W.cell? ⟨jl,2,none⟩=some (.slice (some ⟨ub,uo,none⟩) Ls.length lc) from ⟨(HK5.out.below hW).cell 0,(HK5.out.below hW).cell 1,(HL5.out.below hW).cell 2⟩)
   have hT:=HTT.out x6 HX6.out
   refine wp_region_two (T:=fun W => W.cell? ⟨jr,0,none⟩=some (.int .i64 x.host)∧W.cell? ⟨jr,1,none⟩=some (.int .i64 an)∧W.cell? ⟨jl,2,none⟩=some (.slice (some ⟨ub,uo,none⟩) Ls.length lc)) (S:=fun _ => True) (n:=99) (by kernel_rfl) ?_
   rw [← HX6E.out]
   refine tk 0 94 hT hS ?_
   refine tk 1 95 hT hS ?_
   try simp only [xq]
   refine tk 2 96 hT hS ?_
   refine tk 3 97 hT hS ?_
   try simp only [xq]
   refine tk 4 98 hT hS ?_
   refine tk 5 99 hT hS ?_
   try simp only [xq]
   refine tk 6 100 hT hS ?_
   refine tk 7 101 hT hS ?_
   try simp only [xq]
   refine tk 8 102 hT hS ?_
   refine tk 9 103 hT hS ?_
   try simp only [xq]
   refine tk 10 104 hT hS ?_
   refine tk 11 105 hT hS ?_
   try simp only [xq]
   refine tk 12 106 hT hS ?_
   refine tk 13 107 hT hS ?_
   try simp only [xq]
   refine tk 14 108 hT hS ?_
   refine tk 15 109 hT hS ?_
   try simp only [xq]
   refine tk 16 110 hT hS ?_
   refine tk 17 111 hT hS ?_
   try simp only [xq]
   refine tk 18 112 hT hS ?_
   refine tk 19 113 hT hS ?_
   try simp only [xq]
   refine tk 20 114 hT hS ?_
   refine tk 21 115 hT hS ?_
   try simp only [xq]
   have HPL:=Lib.hid (show (pgR Ls an su).length=bn-an from by
    have h1:=HPE.out.1.len
    have h2:=HBN.out
    have h3:=HAN.out
    omega)
   have HEB:=Lib.hid (refEncBatch_ok x.host an (pgR Ls an su) _ x6 (HR5.out.below HX6.out) HHO.out ⟨by omega,by have:=HAN.out;have:=HS9.out;omega⟩ ⟨by omega,by have h1:=HPL.out;have h2:=HAB.out;have h3:=HS9.out;rw [h1];omega⟩ (by have h1:=HPL.out;have h2:=HAB.out;rw [h1];omega) HPE.out.1.may)
   obtain ⟨bb,hbb⟩:∃ b,b=batchB x.host an (pgR Ls an su):=⟨_,rfl⟩
   rw [← hbb] at HEB
   have HBB:=Lib.hid hbb
   clear hbb
   refine two_one 22 rfl (by kernel_rfl) ?_
   intro K0 hK0
   go_simp
   refine HEB.out.mono ?_
   rintro e x7 ⟨rfl,hb7⟩
   have HX7:=Lib.hid (HX6.out.trans (hb7.mono HX6.out.size))
   have hT3:=HTT.out x7 HX7.out
   refine hK0.out _ _ hT3 (fun _ _ => hS) ?_
   clear hK0 K0 hT hb7 HEB
   have hT:=hT3
   clear hT3
   try simp only [xq]
   refine tk 23 93 hT hS ?_
   refine tk 24 117 hT hS ?_
   try simp only [xq]
   refine tk 25 118 hT hS ?_
   refine tk 26 119 hT hS ?_
   try simp only [xq]
   refine tk 27 120 hT hS ?_
   try simp only [xq]
   have c3:=(HK5.out.below HX7.out).cell 3
   simp only [List.getElem?_toArray,List.getElem?_cons_zero,List.getElem?_cons_succ] at c3
   have f3:=(HK5.out.below HX7.out).free 3
   have k8:=(HK5.out.below HX7.out).set 3 (.string bb)
   have l8:=(HL5.out.below HX7.out).set_ot jr 3 (.string bb) HNE.out
   have g8:=(HC5.out.trans (Chg.of_below HX7.out)).setCell (p:=⟨jr,3,none⟩) (fun _ => rfl) (.string bb)
   simp only [List.setIfInBounds_toArray,List.set_cons_zero,List.set_cons_succ] at k8
   obtain ⟨y8,hy8⟩:∃ z,z=x7.setCell ⟨jr,3,none⟩ (.string bb):=⟨_,rfl⟩
   rw [← hy8] at k8 l8 g8
   have hT3:y8.cell? ⟨jr,0,none⟩=some (.int .i64 x.host)∧y8.cell? ⟨jr,1,none⟩=some (.int .i64 an)∧y8.cell? ⟨jl,2,none⟩=some (.slice (some ⟨ub,uo,none⟩) Ls.length lc):=⟨k8.cell 0,k8.cell 1,l8.cell 2⟩
   refine two_one 28 rfl (by kernel_rfl) ?_
   intro K0 hK0
   go_simp
   rw [← hy8]
   refine hK0.out _ _ hT3 (fun _ _ => hS) ?_
   clear hK0 K0 hT c3 f3 hy8
   have hT:=hT3
   clear hT3
   try simp only [xq]
   refine two_done (by kernel_rfl) ?_ _
   have k9:=k8.set 5 (.int .i64 now)
   have g9:=g8.setCell (p:=⟨jr,5,none⟩) (fun _ => rfl) (.int .i64 now)
   simp only [List.setIfInBounds_toArray,List.set_cons_zero,List.set_cons_succ] at k9
   have c3:=k9.cell 3
   have c5:=k8.cell 5
   simp only [List.getElem?_toArray,List.getElem?_cons_zero,List.getElem?_cons_succ] at c3 c5
   have f5:=k8.free 5
   have HK9:=Lib.hid k9
   have HG9:=Lib.hid g9
   clear k8 l8 g8 k9 g9 hT
   go_wp2_with fail
   go_ret
   unfold StepD
   rw [HE.out,HPE.out.2,← HA.out.1]
   refine ⟨by show _=Ending.returned (.string (batchB x.host an (pgR Ls an su)));rw [← HBB.out];rfl,⟨now,?_,fun _ => rfl⟩,HG9.out⟩
   have k:=HK9.out
   unfold dmC
   simp only
   rw [← HBB.out,HPL.out,show x.gap+((an:Int)-x.next)=g by rw [HA.out.2,HA.out.1],show (((bn-an:Nat):Nat):Int)=(bn:Int)-an by have:=HAB.out;omega]
   exact k
 · have HSK:=Lib.hid (show ¬ x.next<fi from hsk)
   have q2:decide (x.next<fi)=false:=decide_eq_false hsk
   clear hk hl hne hm hsu hsk hb hr hlv hs9 hh hpg
   go_enter Tryz.func33,Tryz.ntmps33
   go_wp2_with fail
   clear c4 q0 q1
   obtain ⟨x1,hx1⟩:∃ y,y=w.drew:=⟨_,rfl⟩
   have HX1:=Lib.hid (show Below w.heap.size w x1 by rw [hx1];exact (Below.refl _ _).drew)
   have hT:x1.cell? ⟨jr,1,none⟩=some (.int .i64 x.next)∧x1.cell? ⟨jl,0,none⟩=some (.int .i64 fi):=⟨(HK.out.below HX1.out).cell 1,(HL.out.below HX1.out).cell 0⟩
   have hS:True:=trivial
   refine wp_region_two (T:=fun W => W.cell? ⟨jr,1,none⟩=some (.int .i64 x.next)∧W.cell? ⟨jl,0,none⟩=some (.int .i64 fi)) (S:=fun _ => True) (n:=99) (by kernel_rfl) ?_
   rw [← hx1]
   clear hx1
   refine tk 0 28 hT hS ?_
   refine tk 1 29 hT hS ?_
   try simp only [xq]
   refine tk 2 30 hT hS ?_
   refine tk 3 31 hT hS ?_
   try simp only [xq]
   refine tk 4 32 hT hS ?_
   refine tk 5 33 hT hS ?_
   try simp only [xq]
   refine tk 6 34 hT hS ?_
   refine tk 7 35 hT hS ?_
   try simp only [xq]
   refine tk 8 36 hT hS ?_
   refine tk 9 37 hT hS ?_
   try simp only [xq]
   refine two_done (by kernel_rfl) ?_ _
   clear hT
   obtain ⟨y,hy⟩:∃ y,y=x1:=⟨_,rfl⟩
   have k9:=HK.out.below HX1.out
   have hb8:=HL.out.below HX1.out
   have hc9:=Chg.of_below (S:=fun k => k=jr) HX1.out
   rw [← hy] at k9 hb8 hc9 ⊢
   obtain ⟨a,ha⟩:∃ a:Int,a=x.next:=⟨_,rfl⟩
   obtain ⟨g,hg⟩:∃ g:Int,g=x.gap:=⟨_,rfl⟩
   unfold dmC at k9
   rw [← ha,← hg] at k9
   have HKY:=Lib.hid k9
   have HLY:=Lib.hid hb8
   have HCY:=Lib.hid hc9
   have HA:=Lib.hid (show a=atR fi x∧g=x.gap+(atR fi x-x.next) by rw [ha,hg];have:=HSK.out;unfold atR;omega)
   clear k9 hb8 hc9 ha hg hy
   go_wp2_with fail
   obtain ⟨an,rfl⟩:∃ n:Nat,a=n:=⟨a.toNat,by have h1:=HA.out.1;have h2:=HB0.out;unfold atR at h1;omega⟩
   have q8:decide ((an:Int)≥su)=false:=decide_eq_false (by have:=HA.out.1;have:=HSU.out;omega)
   have q9:decide ((su:Int)≤an)=false:=decide_eq_false (by have:=HA.out.1;have:=HSU.out;omega)
   have q10:decide (su≤an)=false:=decide_eq_false (by have:=HA.out.1;have:=HSU.out;omega)
   have HAN:=Lib.hid (show an<su by have:=HA.out.1;have:=HSU.out;omega)
   obtain ⟨bn,hbn⟩:∃ bn:Nat,bn=min (an+8) su:=⟨_,rfl⟩
   have hmin:min ((an:Int)+8) (su:Int)=(bn:Int):=by rw [hbn];omega
   have HAB:=Lib.hid (show an<bn∧bn≤su∧bn≤an+8 by have:=HAN.out;omega)
   have hwa:IntKind.i64.wrap ((an:Int)+8)=(an:Int)+8:=by rw [IntKind.wrap_i64];have:=HAN.out;have:=HS9.out;omega
   have hwb:IntKind.i64.wrap ((bn:Int)-an)=(bn:Int)-an:=by rw [IntKind.wrap_i64];have:=HAB.out;have:=HS9.out;omega
   have hat:(atR fi x).toNat=an:=by rw [← HA.out.1];exact Int.toNat_natCast an
   have hpg:=HPG.out
   rw [hat] at hpg
   obtain ⟨ub,uo,hlx,hub,hln,hlc,hrp⟩:=rdSp_part (HR.out.chg HCY.out HLV.out) an bn HAB.out.1 (by have:=HAB.out;have:=HS9.out;omega)
   subst hlx
   have hpe:(Ls.take bn).drop an=pgR Ls an su:=by unfold pgR;rw [hbn]
   rw [hpe] at hrp
   have HPE:=Lib.hid (And.intro hpg hat)
   have HRP:=Lib.hid hrp
   have hl1:(an:Int)≤bn:=by have:=HAB.out;omega
   have hl2:bn≤lc:=by have:=HAB.out;have:=HS9.out;omega
   have hl3:(bn:Int)≤lc:=by omega
   have hl4:an≤bn:=by have:=HAB.out;omega
   have hl5:((bn:Int)-(an:Int)).toNat=bn-an:=by omega
   have hl6:¬ lc=an:=by have:=HAB.out;have:=HS9.out;omega
   have HBN:=Lib.hid hbn
   clear hbn hat hpg hrp hpe
   obtain ⟨x3,hx3⟩:∃ z,z=y.drew:=⟨_,rfl⟩
   have HX3:=Lib.hid (show Below y.heap.size y x3 by rw [hx3];exact (Below.refl _ _).drew)
   have hT:x3.cell? ⟨jr,1,none⟩=some (.int .i64 an)∧x3.cell? ⟨jl,1,none⟩=some (.int .i64 su):=⟨(HKY.out.below HX3.out).cell 1,(HLY.out.below HX3.out).cell 1⟩
   refine wp_region_two (T:=fun W => W.cell? ⟨jr,1,none⟩=some (.int .i64 an)∧W.cell? ⟨jl,1,none⟩=some (.int .i64 su)) (S:=fun _ => True) (n:=99) (by kernel_rfl) ?_
   rw [← hx3]
   clear hx3
   refine tk 0 62 hT hS ?_
   refine tk 1 63 hT hS ?_
   try simp only [xq]
   refine tk 2 64 hT hS ?_
   refine tk 3 65 hT hS ?_
   try simp only [xq]
   refine tk 4 66 hT hS ?_
   refine tk 5 67 hT hS ?_
   try simp only [xq]
   refine tk 6 68 hT hS ?_
   refine tk 7 69 hT hS ?_
   try simp only [xq]
   refine tk 8 70 hT hS ?_
   refine tk 9 71 hT hS ?_
   try simp only [xq]
   refine two_done (by kernel_rfl) ?_ _
   clear hT
   obtain ⟨x4,hx4⟩:∃ z,z=x3.drew:=⟨_,rfl⟩
   have HX4:=Lib.hid (show Below y.heap.size y x4 by rw [hx4];exact HX3.out.drew)
   have hT:x4.cell? ⟨jr,1,none⟩=some (.int .i64 an)∧x4.cell? ⟨jl,1,none⟩=some (.int .i64 su):=⟨(HKY.out.below HX4.out).cell 1,(HLY.out.below HX4.out).cell 1⟩
   go_wp2_with fail
   refine wp_region_two (T:=fun W => W.cell? ⟨jr,1,none⟩=some (.int .i64 an)∧W.cell? ⟨jl,1,none⟩=some (.int .i64 su)) (S:=fun _ => True) (n:=99) (by kernel_rfl) ?_
   rw [← hx4]
   clear hx4
   refine tk 0 72 hT hS ?_
   refine tk 1 73 hT hS ?_
   try simp only [xq]
   refine tk 2 74 hT hS ?_
   refine tk 3 75 hT hS ?_
   try simp only [xq]
   refine tk 4 76 hT hS ?_
   refine tk 5 77 hT hS ?_
   try simp only [xq]
   refine tk 6 78 hT hS ?_
   refine tk 7 79 hT hS ?_
   try simp only [xq]
   refine tk 8 80 hT hS ?_
   refine tk 9 81 hT hS ?_
   try simp only [xq]
   refine tk 10 82 hT hS ?_
   refine tk 11 7 hT hS ?_
   try simp only [xq]
   refine two_done (by kernel_rfl) ?_ _
   obtain ⟨c1,_⟩:=hT
   have f4:=(HKY.out.below HX4.out).free 4
   have c4:=(HKY.out.below HX4.out).cell 4
   simp only [List.getElem?_toArray,List.getElem?_cons_zero,List.getElem?_cons_succ] at c4
   have k5:=(HKY.out.below HX4.out).set 4 (.int .i64 ((bn:Int)-an))
   have l5:=(HLY.out.below HX4.out).set_ot jr 4 (.int .i64 ((bn:Int)-an)) HNE.out
   have g5:=(HCY.out.trans (Chg.of_below HX4.out)).setCell (p:=⟨jr,4,none⟩) (fun _ => rfl) (.int .i64 ((bn:Int)-an))
   have h5:=(Chg.of_below (S:=fun k => k=jr) HX4.out).setCell (p:=⟨jr,4,none⟩) (fun _ => rfl) (.int .i64 ((bn:Int)-an))
   simp only [List.setIfInBounds_toArray,List.set_cons_zero,List.set_cons_succ] at k5
   obtain ⟨y5,hy5⟩:∃ z,z=x4.setCell ⟨jr,4,none⟩ (.int .i64 ((bn:Int)-an)):=⟨_,rfl⟩
   rw [← hy5] at k5 l5 g5 h5
   have HK5:=Lib.hid k5
   have HL5:=Lib.hid l5
   have HC5:=Lib.hid g5
   have HR5:=Lib.hid (HRP.out.chg h5 (slice_off (HUB.out _ _ rfl)))
   have HY5:=Lib.hid hy5
   obtain ⟨x6,hx6⟩:∃ z,z=y5.drew:=⟨_,rfl⟩
   have HX6:=Lib.hid (show Below y5.heap.size y5 x6 by rw [hx6];exact (Below.refl _ _).drew)
   have HX6E:=Lib.hid hx6
   clear k5 l5 g5 h5 hy5 hx6
   go_wp2_with fail
   rw [← HY5.out]
   clear c1 f4 c4
   have HTT:=Lib.hid (fun (W:World) (hW:Below y5.heap.size y5 W) => show W.cell? ⟨jr,0,none⟩=some (.int .i64 x.host)∧W.cell? ⟨jr,1,none⟩=some (.int .i64 an)∧W.cell? ⟨jl,2,none⟩=some (.slice (some ⟨ub,uo,none⟩) Ls.length lc) from ⟨(HK5.out.below hW).cell 0,(HK5.out.below hW).cell 1,(HL5.out.below hW).cell 2⟩)
   have hT:=HTT.out x6 HX6.out
   refine wp_region_two (T:=fun W => W.cell? ⟨jr,0,none⟩=some (.int .i64 x.host)∧W.cell? ⟨jr,1,none⟩=some (.int .i64 an)∧W.cell? ⟨jl,2,none⟩=some (.slice (some ⟨ub,uo,none⟩) Ls.length lc)) (S:=fun _ => True) (n:=99) (by kernel_rfl) ?_
   rw [← HX6E.out]
   refine tk 0 94 hT hS ?_
   refine tk 1 95 hT hS ?_
   try simp only [xq]
   refine tk 2 96 hT hS ?_
   refine tk 3 97 hT hS ?_
   try simp only [xq]
   refine tk 4 98 hT hS ?_
   refine tk 5 99 hT hS ?_
   try simp only [xq]
   refine tk 6 100 hT hS ?_
   refine tk 7 101 hT hS ?_
   try simp only [xq]
   refine tk 8 102 hT hS ?_
   refine tk 9 103 hT hS ?_
   try simp only [xq]
   refine tk 10 104 hT hS ?_
   refine tk 11 105 hT hS ?_
   try simp only [xq]
   refine tk 12 106 hT hS ?_
   refine tk 13 107 hT hS ?_
   try simp only [xq]
   refine tk 14 108 hT hS ?_
   refine tk 15 109 hT hS ?_
   try simp only [xq]
   refine tk 16 110 hT hS ?_
   refine tk 17 111 hT hS ?_
   try simp only [xq]
   refine tk 18 112 hT hS ?_
   refine tk 19 113 hT hS ?_
   try simp only [xq]
   refine tk 20 114 hT hS ?_
   refine tk 21 115 hT hS ?_
   try simp only [xq]
   have HPL:=Lib.hid (show (pgR Ls an su).length=bn-an from by
    have h1:=HPE.out.1.len
    have h2:=HBN.out
    have h3:=HAN.out
    omega)
   have HEB:=Lib.hid (refEncBatch_ok x.host an (pgR Ls an su) _ x6 (HR5.out.below HX6.out) HHO.out ⟨by omega,by have:=HAN.out;have:=HS9.out;omega⟩ ⟨by omega,by have h1:=HPL.out;have h2:=HAB.out;have h3:=HS9.out;rw [h1];omega⟩ (by have h1:=HPL.out;have h2:=HAB.out;rw [h1];omega) HPE.out.1.may)
   obtain ⟨bb,hbb⟩:∃ b,b=batchB x.host an (pgR Ls an su):=⟨_,rfl⟩
   rw [← hbb] at HEB
   have HBB:=Lib.hid hbb
   clear hbb
   refine two_one 22 rfl (by kernel_rfl) ?_
   intro K0 hK0
   go_simp
   refine HEB.out.mono ?_
   rintro e x7 ⟨rfl,hb7⟩
   have HX7:=Lib.hid (HX6.out.trans (hb7.mono HX6.out.size))
   have hT3:=HTT.out x7 HX7.out
   refine hK0.out _ _ hT3 (fun _ _ => hS) ?_
   clear hK0 K0 hT hb7 HEB
   have hT:=hT3
   clear hT3
   try simp only [xq]
   refine tk 23 93 hT hS ?_
   refine tk 24 117 hT hS ?_
   try simp only [xq]
   refine tk 25 118 hT hS ?_
   refine tk 26 119 hT hS ?_
   try simp only [xq]
   refine tk 27 120 hT hS ?_
   try simp only [xq]
   have c3:=(HK5.out.below HX7.out).cell 3
   simp only [List.getElem?_toArray,List.getElem?_cons_zero,List.getElem?_cons_succ] at c3
   have f3:=(HK5.out.below HX7.out).free 3
   have k8:=(HK5.out.below HX7.out).set 3 (.string bb)
   have l8:=(HL5.out.below HX7.out).set_ot jr 3 (.string bb) HNE.out
   have g8:=(HC5.out.trans (Chg.of_below HX7.out)).setCell (p:=⟨jr,3,none⟩) (fun _ => rfl) (.string bb)
   simp only [List.setIfInBounds_toArray,List.set_cons_zero,List.set_cons_succ] at k8
   obtain ⟨y8,hy8⟩:∃ z,z=x7.setCell ⟨jr,3,none⟩ (.string bb):=⟨_,rfl⟩
   rw [← hy8] at k8 l8 g8
   have hT3:y8.cell? ⟨jr,0,none⟩=some (.int .i64 x.host)∧y8.cell? ⟨jr,1,none⟩=some (.int .i64 an)∧y8.cell? ⟨jl,2,none⟩=some (.slice (some ⟨ub,uo,none⟩) Ls.length lc):=⟨k8.cell 0,k8.cell 1,l8.cell 2⟩
   refine two_one 28 rfl (by kernel_rfl) ?_
   intro K0 hK0
   go_simp
   rw [← hy8]
   refine hK0.out _ _ hT3 (fun _ _ => hS) ?_
   clear hK0 K0 hT c3 f3 hy8
   have hT:=hT3
   clear hT3
   try simp only [xq]
   refine two_done (by kernel_rfl) ?_ _
   have k9:=k8.set 5 (.int .i64 now)
   have g9:=g8.setCell (p:=⟨jr,5,none⟩) (fun _ => rfl) (.int .i64 now)
   simp only [List.setIfInBounds_toArray,List.set_cons_zero,List.set_cons_succ] at k9
   have c3:=k9.cell 3
   have c5:=k8.cell 5
   simp only [List.getElem?_toArray,List.getElem?_cons_zero,List.getElem?_cons_succ] at c3 c5
   have f5:=k8.free 5
   have HK9:=Lib.hid k9
   have HG9:=Lib.hid g9
   clear k8 l8 g8 k9 g9 hT
   go_wp2_with fail
   go_ret
   unfold StepD
   rw [HE.out,HPE.out.2,← HA.out.1]
   refine ⟨by show _=Ending.returned (.string (batchB x.host an (pgR Ls an su)));rw [← HBB.out];rfl,⟨now,?_,fun _ => rfl⟩,HG9.out⟩
   have k:=HK9.out
   unfold dmC
   simp only
   rw [← HBB.out,HPL.out,show x.gap+((an:Int)-x.next)=g by rw [HA.out.2,HA.out.1],show (((bn-an:Nat):Nat):Int)=(bn:Int)-an by have:=HAB.out;omega]
   exact k
end
end Go.Proofs.YtdacanghbepjpaaGreatDoor
namespace Go.Proofs.YtdacanghbepjpaaGreatDoor
set_option linter.unusedSimpArgs false
set_option linter.unusedVariables false
set_option maxRecDepth 100000
open Go.RowKit Go.Maps
open Dsk
structure PyM (w W:World) (K:Nat→Prop) (jn jr jl:Nat) (x:Dm) (v:Int) (fi su:Nat) (LV:Value) (Ls:List Sp.Span):Prop where
 rb:Blk W jr 71 (dmC x v)
 lb:Blk W jl 74 #[.int .i64 fi,.int .i64 su,LV]
 row:OwnSp W w.heap.size LV Ls
 snt:x.many>0→v=x.sent
 kr:K jr
 kl:K jl
 kv:∀ q,LV.ownBlock=some q→K q∧q≠jr∧q≠jl
 ne:jl≠jr
 kn:∀ q,K q→q≠jn∧w.heap.size≤q
section
variable {w0 w w':World} {K S:Nat→Prop} {jn jr jl fi su fi' su':Nat} {x x':Dm} {v v':Int} {LV u:Value} {Ls Ls':List Sp.Span}
theorem PyM.keeps (m:PyM w0 w K jn jr jl x v fi su LV Ls) (c:Keeps K w w'):PyM w0 w' K jn jr jl x v fi su LV Ls :=
 ⟨m.rb.chg c fun e => e m.kr,m.lb.chg c fun e => e m.kl,OwnRow.chg m.row (show Chg (fun k => ¬ K k) w w' from c) fun q hq e => e (m.kv q hq).1,m.snt,m.kr,m.kl,m.kv,m.ne,m.kn⟩
theorem PyM.below (m:PyM w0 w K jn jr jl x v fi su LV Ls) (y:Below w.heap.size w w'):PyM w0 w' K jn jr jl x v fi su LV Ls:=m.keeps (Keeps.below y)
theorem PyM.add (m:PyM w0 w K jn jr jl x v fi su LV Ls) (hj:jn<w.heap.size) (hw:w0.heap.size≤w.heap.size) (y:Below w.heap.size w w'):PyM w0 w' (Also K w w') jn jr jl x v fi su LV Ls :=
 ⟨m.rb.below y,m.lb.below y,OwnRow.below m.row y,m.snt,.inl m.kr,.inl m.kl,fun q hq => ⟨.inl (m.kv q hq).1,(m.kv q hq).2⟩,m.ne,fun q hq => by
  rcases hq with hq | hq
  · exact m.kn q hq
  · omega⟩
theorem PyM.turned (m:PyM w0 w K jn jr jl x v fi su LV Ls) (hb:Blk w' jr 71 (dmC x' v')) (hs:x'.many>0→v'=x'.sent) (c:Chg (fun k => k=jr) w w'):PyM w0 w' K jn jr jl x' v' fi su LV Ls :=
 ⟨hb,m.lb.chg c m.ne,OwnRow.chg m.row c fun q hq e => (m.kv q hq).2.1 e,hs,m.kr,m.kl,m.kv,m.ne,m.kn⟩
theorem PyM.turnS (m:PyM w0 w K jn jr jl x v fi su LV Ls):∀ k,k=jr→k<w.heap.size→K k∧k≠jn∧w0.heap.size≤k:=fun k hk _ => by rw [hk];exact ⟨m.kr,(m.kn jr m.kr).1,(m.kn jr m.kr).2⟩
theorem PyM.logS (m:PyM w0 w K jn jr jl x v fi su LV Ls):∀ k,k=jl→k<w.heap.size→K k∧k≠jn∧w0.heap.size≤k:=fun k hk _ => by rw [hk];exact ⟨m.kl,(m.kn jl m.kl).1,(m.kn jl m.kl).2⟩
theorem PyM.nums (m:PyM w0 w K jn jr jl x v fi su LV Ls):PyM w0 ((w.setCell ⟨jl,0,none⟩ (.int .i64 fi')).setCell ⟨jl,1,none⟩ (.int .i64 su')) K jn jr jl x v fi' su' LV Ls∧Chg (fun k => k=jl) w ((w.setCell ⟨jl,0,none⟩ (.int .i64 fi')).setCell ⟨jl,1,none⟩ (.int .i64 su')):=by
 have hc:Chg (fun k => k=jl) w ((w.setCell ⟨jl,0,none⟩ (.int .i64 fi')).setCell ⟨jl,1,none⟩ (.int .i64 su')):=((Chg.refl (fun k => k=jl) w).setCell (p:=⟨jl,_,none⟩) (fun _ => rfl) _).setCell (p:=⟨jl,_,none⟩) (fun _ => rfl) _
 have hb:=(m.lb.set 0 (.int .i64 fi')).set 1 (.int .i64 su')
 simp only [List.setIfInBounds_toArray,List.set_cons_zero,List.set_cons_succ] at hb
 exact ⟨⟨m.rb.chg hc fun e => m.ne e.symm,hb,OwnRow.chg m.row hc fun q hq e => (m.kv q hq).2.2 e,m.snt,m.kr,m.kl,m.kv,m.ne,m.kn⟩,hc⟩
theorem PyM.grown (m:PyM w0 w K jn jr jl x v fi su LV Ls) (hj:jn<w.heap.size) (hw:w0.heap.size≤w.heap.size) (hr:OwnSp w' w0.heap.size u Ls') (hu:u.ownBlock=LV.ownBlock∨∃ q,u.ownBlock=some q∧w.heap.size≤q) (c:Chg (fun q => LV.ownBlock=some q) w w') :
  PyM w0 (w'.setCell ⟨jl,2,none⟩ u) (Also K w (w'.setCell ⟨jl,2,none⟩ u)) jn jr jl x v fi su u Ls'∧Chg (fun q => LV.ownBlock=some q∨q=jl) w (w'.setCell ⟨jl,2,none⟩ u):=by
 have hlt:=m.lb.lt
 have hrt:=m.rb.lt
 have hz:=c.size
 have hc2:Chg (fun k => k=jl) w' (w'.setCell ⟨jl,2,none⟩ u):=(Chg.refl (fun k => k=jl) w').setCell (p:=⟨jl,_,none⟩) (fun _ => rfl) _
 have hl:=(m.lb.chg c fun e => (m.kv jl e).2.2 rfl).set 2 u
 simp only [List.setIfInBounds_toArray,List.set_cons_zero,List.set_cons_succ] at hl
 have hz2:=hc2.size
 have hq:∀ q,u.ownBlock=some q→Also K w (w'.setCell ⟨jl,2,none⟩ u) q∧q≠jr∧q≠jl:=fun q hq => by
  rcases hu with e | ⟨q2,e,e2⟩
  · rw [e] at hq
    exact ⟨.inl (m.kv q hq).1,(m.kv q hq).2⟩
  · rw [e] at hq
    injection hq with hq
    subst hq
    have h3:=(OwnRow.lt hr q2 e).2
    exact ⟨.inr ⟨e2,by omega⟩,by omega,by omega⟩
 refine ⟨⟨(m.rb.chg c fun e => (m.kv jr e).2.1 rfl).chg hc2 fun e => m.ne e.symm,hl,OwnRow.chg hr hc2 fun q h e => (hq q h).2.2 e,m.snt,.inl m.kr,.inl m.kl,hq,m.ne,fun q h => ?_⟩,(c.mono fun k _ e => .inl e).trans (hc2.mono fun k _ e => .inr e)⟩
 rcases h with h | h
 · exact m.kn q h
 · omega
theorem PyM.grownS (m:PyM w0 w K jn jr jl x v fi su LV Ls):∀ k,(LV.ownBlock=some k∨k=jl)→k<w.heap.size→K k∧k≠jn∧w0.heap.size≤k:=fun k hk h => by
 rcases hk with hk | hk
 · exact ⟨(m.kv k hk).1,(m.kn k (m.kv k hk).1).1,(m.kn k (m.kv k hk).1).2⟩
 · exact m.logS k hk h
theorem PyM.shape (m:PyM w0 w K jn jr jl x v fi su LV Ls):∃ lx lc,LV=.slice lx Ls.length lc:=OwnRow.shape m.row
theorem PyM.rd (m:PyM w0 w K jn jr jl x v fi su LV Ls):RdSp w LV Ls:=OwnRow.rd spRow_len m.row
end
section
variable {d d':Dk} {s s' k c:Nat} {h h':Hl} {x:Dm} {Ls:List Sp.Span}
theorem NodeC.wrE (n:NodeC d h s x Ls c k) (hk:k≤1000) (hc:120*(k+2)≤c) (kd a:Nat) (y:Sp.Span) :
  ∃ s' Ls',NodeC (wrP kd a y d h).2.2 (wrP kd a y d h).2.1 s' x Ls' c (k+1)∧(Ls'=Ls∨(Ls'=Ls++[y]∧Sp.May y)):=by
 unfold wrP
 split
 · by_cases hy:Sp.May y
   · obtain ⟨_,_,s',n',_⟩:=n.app hk hc y hy
     exact ⟨s',_,n',.inr ⟨rfl,hy⟩⟩
   · rw [app_bad d h hy]
     exact ⟨s,Ls,n.more,.inl rfl⟩
 split
 · obtain ⟨_,e,s',n',_⟩:=n.sync
   rw [e]
   exact ⟨s',_,n',.inl rfl⟩
 split
 · obtain ⟨_,_,s',n',_⟩:=n.rot hk hc
   exact ⟨s',_,n',.inl rfl⟩
 split
 · obtain ⟨_,_,s',n',_⟩:=n.ret (1+((a % 4:Nat):Int)) (by omega)
   exact ⟨s',_,n',.inl rfl⟩
 · exact ⟨s,Ls,n.more,.inl rfl⟩
theorem NodeC.asks (n:NodeC d h s x Ls c k) (hk:k≤1000):0≤x.next∧x.next≤1000000000000∧0≤x.gap∧x.gap≤1000000000000∧firstOf h.l≤1000000000000∧sureOf h.l s≤Ls.length∧sureOf h.l s≤2147483647:=by
 have h1:=n.node.gap
 have h2:=n.node.sure
 have h3:=n.le
 have h4:=n.many
 omega
theorem refStep_node {w W:World} {K:Nat→Prop} {jn jr jl:Nat} {v now:Int} {LV:Value} (n:NodeC d h s x Ls c k) (hk:k≤1000) (hc:120*(k+2)≤c) (m:PyM w W K jn jr jl x v (firstOf h.l) (sureOf h.l s) LV Ls) (hn:0≤now∧now≤1000000000000) (hs:0≤x.sent∧x.sent≤1000000000000) :
  Calls Tryz.prog 33 #[.pointer (some ⟨jr,0,none⟩),.pointer (some ⟨jl,0,none⟩),.int .i64 now] W (StepD jr W (stpR (firstOf h.l) (sureOf h.l s) Ls now x)):=by
 obtain ⟨a1,a2,a3,a4,a5,a6,a7⟩:=n.asks hk
 have hp:=n.node.out.pos
 obtain ⟨lx,lc,rfl⟩:=m.shape
 by_cases hm:x.many>0
 · exact refStep_more now _ m.rb hm (m.snt hm) hn hs
 · have h0:x.many=0:=by omega
   by_cases hsu:(sureOf h.l s:Int)≤atR (firstOf h.l) x
   · exact refStep_none now m.rb m.lb m.ne h0 (n.node.out.many0.1 h0) hsu ⟨a1,a2,a3,a4,a5⟩
   · exact refStep_sends now m.rb m.lb m.ne m.rd (fun q hq e => (m.kv q hq).2.1 e) h0 hsu ⟨a1,a2,a3,a4,a5⟩ ⟨a6,a7⟩ n.node.host (n.pgR h0 hsu)
theorem stp_sent (fi su:Nat) (now:Int) (x:Dm):(stpR fi su Ls now x).2.sent=x.sent∨(stpR fi su Ls now x).2.sent=now:=by
 unfold stpR
 split
 · split
   · exact .inl rfl
   · exact .inr rfl
 · split
   · exact .inr rfl
   · exact .inr rfl
theorem tk_sent (b:Str) (x:Dm):(tkR b x).2.sent=x.sent:=by
 unfold tkR
 split
 · rfl
 · split <;> rfl
theorem tk_many (b:Str) (x:Dm):(tkR b x).2.many=x.many∨(tkR b x).2.many=0:=by
 unfold tkR
 split
 · exact .inl rfl
 · split
   · exact .inl rfl
   · exact .inr rfl
end
end Go.Proofs.YtdacanghbepjpaaGreatDoor
