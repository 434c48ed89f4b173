/- Open makes a torn segment whole anew: three acts, one behind the other: walked. Open over any log's files: walked. -/
import Derived.Test.YtdacanghbepjpaaGreatDoorG6
import Derived.Test.YtdacanghbepjpaaGreatDoorM9
set_option linter.unusedSimpArgs false
set_option linter.unusedVariables false
set_option maxRecDepth 100000
namespace Go.Proofs.YtdacanghbepjpaaGreatDoor
open Go.RowKit Go.Maps
open Dsk
def anewP (d:Dk) (xs:List Sp.Span) (n:Nat):Int×Dk :=
 let z:=d.append lnew (sgT xs)
 if z.1≠0 then z else let u:=z.2.sync lnew;if u.1≠0 then u else u.2.rename lnew (ln n)
theorem openP_eq (d:Dk) (l:List Sg) (t:Str):openP d l t=if (cleanP d).1≠0 then cleanP d else match l.getLast? with
  | none => (0,(cleanP d).2)
  | some a => if t=[] then (0,(cleanP d).2) else anewP (cleanP d).2 a.spans a.first:=by
 unfold openP cleanP anewP
 obtain ⟨y,hy⟩:∃ y,y=d.remove lnew:=⟨_,rfl⟩
 rw [← hy]
 obtain ⟨r,d1⟩:=y
 simp only
 by_cases h4:r=4
 · subst h4
   cases l.getLast? with
   | none => simp
   | some a => by_cases ht:t=[] <;> simp [ht]
 by_cases h0:r=0
 · subst h0
   cases l.getLast? with
   | none => simp
   | some a => by_cases ht:t=[] <;> simp [ht]
 simp [h4,h0]
theorem enters_anew1:Go.Proofs.Enters Tryz.prog 194:=enters_of Tryz.func194 (by kernel_rfl) rfl
theorem enters_anew2:Go.Proofs.Enters Tryz.prog 195:=enters_of Tryz.func195 (by kernel_rfl) rfl
theorem enters_anew3:Go.Proofs.Enters Tryz.prog 196:=enters_of Tryz.func196 (by kernel_rfl) rfl
section
variable {w0 w w':World} {X:Nat→Prop} {d d':Dk} {bd j bl bs bt fn sn sc ec:Nat} {sx ex:Option Addr} {FT:ByteArray} {B:Nat} {xs:List Sp.Span} {r:Int}
def AnF (bd j bl bs bt fn sn sc ec:Nat) (sx ex:Option Addr) (FT:ByteArray) (W:World):Prop :=
 W.cell? ⟨bl,0,none⟩=some (.pointer (some ⟨j,0,none⟩))∧W.cell? ⟨j,0,none⟩=some (.pointer (some ⟨bd,0,none⟩))∧W.cell? ⟨bt,0,none⟩=some (.string FT)∧W.cell? ⟨bs,0,none⟩=some (.int .i64 fn)∧W.cell? ⟨bs,1,none⟩=some (.slice sx sn sc)∧W.cell? ⟨bs,2,none⟩=some (.slice ex sn ec)
set_option maxHeartbeats 4000000 in
theorem anew1_any (h:Live w0 X w (.pointer (some ⟨bd,0,none⟩)) d) (hf:∀ W,Keeps X w W→AnF bd j bl bs bt fn sn sc ec sx ex FT W) (hev:OwnI w B (.slice ex sn ec) (sgEnds xs)) (hsn:sn=xs.length) (hmay:∀ x∈xs,Sp.May x) (hm:(sgT xs).length≤1000000000)
  (hle:(sgT xs).length≤FT.size) (hft:FT.data.toList.take (sgT xs).length=sgT xs) (hz:FT.size≤maxLen) (hq:d.append lnew (sgT xs)=(r,d')) :
  Calls Tryz.prog 194 #[.pointer (some ⟨bl,0,none⟩),.pointer (some ⟨bt,0,none⟩),.pointer (some ⟨bs,0,none⟩)] w fun e w' => e=.returned (.int .i64 r)∧Live w0 X w' (.pointer (some ⟨bd,0,none⟩)) d'∧Keeps X w w':=by
 subst hsn
 obtain ⟨en,hen⟩:∃ en,en=(sgT xs).length:=⟨_,rfl⟩
 have HSE:=Zh (fun (W:World) (hW:Below w.heap.size w W) => segEnd_any (w:=W) (n:=fn) sx xs.length sc (OwnI.kept hev hW) hmay hm)
 rw [← hen] at HSE hle hft
 have hx:(FT.extract 0 en).data.toList=sgT xs:=by rw [ByteArray.data_extract,Array.toList_extract,List.extract_eq_take_drop];simpa using hft
 have hxz:(FT.extract 0 en).size≤maxLen:=by rw [ByteArray.size_extract];omega
 have HAP:=Zh (fun (W:World) (hW:Below w.heap.size w W) => (h.keep hW).appendK lnewB (FT.extract 0 en) lnewB_data hx hq (by decide) hxz)
 unfold lnewB at HAP
 have HTT:=Zh (fun (W:World) (hW:Keeps X w W) => hf W hW)
 unfold AnF at HTT
 unfold segVal at HSE
 obtain ⟨sn,hsn⟩:∃ sn,sn=xs.length:=⟨_,rfl⟩
 rw [← hsn] at HSE HTT
 unfold maxLen at hz
 have hle2:(en:Int)≤FT.size:=by omega
 clear hf hev hmay hm hft hq hx hxz hen hsn h
 go_enter Tryz.func194,Tryz.ntmps194
 go_wp2_with fail
 refine wp_region_two (T:=fun W => W.cell? ⟨bl,0,none⟩=some (.pointer (some ⟨j,0,none⟩))∧W.cell? ⟨j,0,none⟩=some (.pointer (some ⟨bd,0,none⟩))∧W.cell? ⟨bt,0,none⟩=some (.string FT)∧W.cell? ⟨bs,0,none⟩=some (.int .i64 fn)∧W.cell? ⟨bs,1,none⟩=some (.slice sx sn sc)∧W.cell? ⟨bs,2,none⟩=some (.slice ex sn ec)) (S:=fun _ => True) (n:=99) (by kernel_rfl) ?_
 obtain ⟨y1,hy1⟩:∃ y1,y1=w.drew:=⟨_,rfl⟩
 rw [← hy1]
 have HY1:=Zh (Zd hy1)
 have hS:True:=trivial
 have hT:=HTT.out y1 (Keeps.below HY1.out)
 clear hy1
 refine tk 0 4 hT hS ?_
 refine tk 1 5 hT hS ?_
 try simp only [xq]
 refine tk 2 6 hT hS ?_
 refine tk 3 7 hT hS ?_
 try simp only [xq]
 refine tk 4 8 hT hS ?_
 refine tk 5 9 hT hS ?_
 try simp only [xq]
 refine two_one 6 rfl (by kernel_rfl) ?_
 intro K hK
 go_simp
 refine (HSE.out y1 HY1.out).mono ?_
 rintro e y2 ⟨rfl,hb2⟩
 have HY2:=Zh (HY1.out.trans (hb2.mono HY1.out.size))
 have hT1:=HTT.out y2 (Keeps.below HY2.out)
 refine hK.out _ _ hT1 (fun _ _ => hS) ?_
 clear hK K hT hb2
 have hT:=hT1
 clear hT1
 try simp only [xq]
 refine tk 7 11 hT hS ?_
 try simp only [xq]
 refine two_one 8 rfl (by kernel_rfl) ?_
 intro K hK
 go_simp
 refine (HAP.out y2 HY2.out).mono ?_
 rintro e y3 ⟨rfl,hl3,hk3⟩
 have HL3:=Zh hl3
 have HK3:=Zh ((Keeps.below HY2.out).trans hk3)
 have hT1:=HTT.out y3 HK3.out
 refine hK.out _ _ hT1 (fun _ _ => hS) ?_
 clear hK K hT hl3 hk3
 have hT:=hT1
 clear hT1
 try simp only [xq]
 refine tk 9 3 hT hS ?_
 try simp only [xq]
 refine two_done (by kernel_rfl) ?_ _
 clear hT hS
 go_wp2_with fail
 go_ret
 exact ⟨rfl,HL3.out,HK3.out⟩
set_option maxHeartbeats 4000000 in
theorem anew2_any (h:Live w0 X w (.pointer (some ⟨bd,0,none⟩)) d) (hf:AnF bd j bl bs bt fn sn sc ec sx ex FT w) (hq:d.sync lnew=(r,d')) :
  Calls Tryz.prog 195 #[.pointer (some ⟨bl,0,none⟩)] w fun e w' => e=.returned (.int .i64 r)∧Live w0 X w' (.pointer (some ⟨bd,0,none⟩)) d'∧Keeps X w w':=by
 obtain ⟨c0,c1,_⟩:=hf
 have HS:=Zh (h.syncK lnewB lnewB_data hq (by decide))
 unfold lnewB at HS
 clear h hq
 go_enter Tryz.func195,Tryz.ntmps195
 go_wp2_with fail
 refine HS.out.mono ?_
 rintro e w1 ⟨rfl,hl,hk⟩
 have HL:=Zh hl
 have HK:=Zh hk
 clear hl hk
 go_wp2_with fail
 go_ret
 exact ⟨rfl,HL.out,HK.out⟩
set_option maxHeartbeats 4000000 in
theorem anew3_any (h:Live w0 X w (.pointer (some ⟨bd,0,none⟩)) d) (he:LEnv w) (hf:∀ W,Keeps X w W→AnF bd j bl bs bt fn sn sc ec sx ex FT W) (hfn:fn≤999999999) (hq:d.rename lnew (ln fn)=(r,d')) :
  Calls Tryz.prog 196 #[.pointer (some ⟨bl,0,none⟩),.pointer (some ⟨bs,0,none⟩)] w fun e w' => e=.returned (.int .i64 r)∧Live w0 X w' (.pointer (some ⟨bd,0,none⟩)) d'∧Keeps X w w':=by
 have HNM:=Zh (fun (W:World) (hW:Below w.heap.size w W) => segName_any (he.below hW) hfn sx ex sn sc sn ec)
 have HAP:=Zh (fun (W:World) (hW:Below w.heap.size w W) => (h.keep hW).renameK lnewB (lnB fn) lnewB_data (lnB_data fn) hq (by decide) (by have:=lnB_size hfn;omega))
 unfold lnewB at HAP
 have HTT:=Zh (fun (W:World) (hW:Keeps X w W) => hf W hW)
 unfold AnF at HTT
 unfold segVal at HNM
 clear hf h hq he
 go_enter Tryz.func196,Tryz.ntmps196
 go_wp2_with fail
 refine wp_region_two (T:=fun W => W.cell? ⟨bl,0,none⟩=some (.pointer (some ⟨j,0,none⟩))∧W.cell? ⟨j,0,none⟩=some (.pointer (some ⟨bd,0,none⟩))∧W.cell? ⟨bt,0,none⟩=some (.string FT)∧W.cell? ⟨bs,0,none⟩=some (.int .i64 fn)∧W.cell? ⟨bs,1,none⟩=some (.slice sx sn sc)∧W.cell? ⟨bs,2,none⟩=some (.slice ex sn ec)) (S:=fun _ => True) (n:=99) (by kernel_rfl) ?_
 obtain ⟨y1,hy1⟩:∃ y1,y1=w.drew:=⟨_,rfl⟩
 rw [← hy1]
 have HY1:=Zh (Zd hy1)
 have hS:True:=trivial
 have hT:=HTT.out y1 (Keeps.below HY1.out)
 clear hy1
 refine tk 0 3 hT hS ?_
 refine tk 1 4 hT hS ?_
 try simp only [xq]
 refine tk 2 5 hT hS ?_
 refine tk 3 6 hT hS ?_
 try simp only [xq]
 refine tk 4 7 hT hS ?_
 try simp only [xq]
 refine two_one 5 rfl (by kernel_rfl) ?_
 intro K hK
 go_simp
 refine (HNM.out y1 HY1.out).mono ?_
 rintro e y2 ⟨rfl,hb2⟩
 have HY2:=Zh (HY1.out.trans (hb2.mono HY1.out.size))
 have hT1:=HTT.out y2 (Keeps.below HY2.out)
 refine hK.out _ _ hT1 (fun _ _ => hS) ?_
 clear hK K hT hb2
 have hT:=hT1
 clear hT1
 try simp only [xq]
 refine two_one 6 rfl (by kernel_rfl) ?_
 intro K hK
 go_simp
 refine (HAP.out y2 HY2.out).mono ?_
 rintro e y3 ⟨rfl,hl3,hk3⟩
 have HL3:=Zh hl3
 have HK3:=Zh ((Keeps.below HY2.out).trans hk3)
 have hT1:=HTT.out y3 HK3.out
 refine hK.out _ _ hT1 (fun _ _ => hS) ?_
 clear hK K hT hl3 hk3
 have hT:=hT1
 clear hT1
 try simp only [xq]
 refine tk 7 2 hT hS ?_
 try simp only [xq]
 refine two_done (by kernel_rfl) ?_ _
 clear hT hS
 go_wp2_with fail
 go_ret
 exact ⟨rfl,HL3.out,HK3.out⟩
set_option maxHeartbeats 4000000 in
theorem first3_any {g:Nat} {f0 f1 f2:FuncId} {c0 c1 c2:Array Value} (e0:Go.Proofs.Enters Tryz.prog f0) (e1:Go.Proofs.Enters Tryz.prog f1) (e2:Go.Proofs.Enters Tryz.prog f2) {P1 P2:World→Prop} {Q:Int→World→Prop}
  (k0:w.cell? ⟨g,0,none⟩=some (.func (.func f0) #[] c0)) (k1:∀ W,P1 W→W.cell? ⟨g,1,none⟩=some (.func (.func f1) #[] c1)) (k2:∀ W,P2 W→W.cell? ⟨g,2,none⟩=some (.func (.func f2) #[] c2))
  (h0:Calls Tryz.prog f0 c0 w fun e w' => ∃ r,e=.returned (.int .i64 r)∧(r=0→P1 w')∧(r≠0→Q r w'))
  (h1:∀ W,P1 W→Calls Tryz.prog f1 c1 W fun e w' => ∃ r,e=.returned (.int .i64 r)∧(r=0→P2 w')∧(r≠0→Q r w'))
  (h2:∀ W,P2 W→Calls Tryz.prog f2 c2 W fun e w' => ∃ r,e=.returned (.int .i64 r)∧Q r w') :
  Calls Tryz.prog 193 #[.slice (some ⟨g,0,none⟩) 3 3] w fun e w' => ∃ r,e=.returned (.int .i64 r)∧Q r w':=by
 have E0:=Zh (fun W => e0 c0 W)
 have E1:=Zh (fun W => e1 c1 W)
 have E2:=Zh (fun W => e2 c2 W)
 have K1:=Zh k1
 have K2:=Zh k2
 have H0:=Zh h0
 have H1:=Zh h1
 have H2:=Zh h2
 clear e0 e1 e2 k1 k2 h0 h1 h2
 go_enter Tryz.func193,Tryz.ntmps193
 go_wp2_with fail
 go_loopw [8,4,5] (fun v8 v4 v5 wr => ∃ i:Nat,v8=.int .i64 i∧((i=0∧wr=w)∨(i=1∧P1 wr)∨(i=2∧P2 wr)∨(i=3∧Q 0 wr))) (fun v8 _ _ _ => 3-(intOf v8).toNat)
 case atStart => exact ⟨0,rfl,.inl ⟨rfl,rfl⟩⟩
 case round =>
 obtain ⟨i,rfl,hi⟩:=hrel
 rcases hi with ⟨rfl,rfl⟩ | ⟨rfl,hp⟩ | ⟨rfl,hp⟩ | ⟨rfl,hp⟩
 · have H1A:=Zh H1
   clear H1A
   go_wp2_with fail
   rw [E0.out]
   refine H0.out.mono ?_
   rintro e w1 ⟨r,rfl,ha,hb⟩
   have HA:=Zh ha
   have HB:=Zh hb
   clear ha hb H0 k0
   by_cases hr:r=0
   · subst hr
     go_wp2_with fail
     go_roundw
     case rel => exact ⟨1,rfl,.inr (.inl ⟨rfl,HA.out trivial⟩)⟩
     case measure => simp [intOf]
   have t1:(r == 0)=false:=beq_eq_false_iff_ne.2 hr
   go_wp2_with fail
   go_ret
   exact ⟨r,rfl,HB.out hr⟩
 · have k1:=K1.out wr hp
   have HC:=Zh (H1.out wr hp)
   clear hp H0 k0
   go_wp2_with fail
   rw [E1.out]
   refine HC.out.mono ?_
   rintro e w1 ⟨r,rfl,ha,hb⟩
   have HA:=Zh ha
   have HB:=Zh hb
   clear ha hb k1
   by_cases hr:r=0
   · subst hr
     go_wp2_with fail
     go_roundw
     case rel => exact ⟨2,rfl,.inr (.inr (.inl ⟨rfl,HA.out trivial⟩))⟩
     case measure => simp [intOf]
   have t1:(r == 0)=false:=beq_eq_false_iff_ne.2 hr
   go_wp2_with fail
   go_ret
   exact ⟨r,rfl,HB.out hr⟩
 · have k2:=K2.out wr hp
   have HC:=Zh (H2.out wr hp)
   clear hp H0 k0
   go_wp2_with fail
   rw [E2.out]
   refine HC.out.mono ?_
   rintro e w1 ⟨r,rfl,hb⟩
   have HB:=Zh hb
   clear hb k2
   by_cases hr:r=0
   · subst hr
     go_wp2_with fail
     go_roundw
     case rel => exact ⟨3,rfl,.inr (.inr (.inr ⟨rfl,HB.out⟩))⟩
     case measure => simp [intOf]
   have t1:(r == 0)=false:=beq_eq_false_iff_ne.2 hr
   go_wp2_with fail
   go_ret
   exact ⟨r,rfl,HB.out⟩
 have HB:=Zh hp
 clear hp H0 k0
 go_wp2_with fail
 go_ret
 exact ⟨0,rfl,HB.out⟩
set_option maxHeartbeats 4000000 in
theorem hanew_any (h:Live w0 X w (.pointer (some ⟨bd,0,none⟩)) d) (he:LEnv w0) (hj:w.cell? ⟨j,0,none⟩=some (.pointer (some ⟨bd,0,none⟩))) (hjX:X j) (hev:OwnI w B (.slice ex sn ec) (sgEnds xs)) (hsn:sn=xs.length) (hfn:fn≤999999999) (hmay:∀ x∈xs,Sp.May x)
  (hm:(sgT xs).length≤1000000000) (hle:(sgT xs).length≤FT.size) (hft:FT.data.toList.take (sgT xs).length=sgT xs) (hz:FT.size≤maxLen) :
  Calls Tryz.prog 168 #[.pointer (some ⟨j,0,none⟩),segVal fn (.slice sx sn sc) (.slice ex sn ec),.string FT] w fun e w' => e=.returned (.int .i64 (anewP d xs fn).1)∧Live w0 X w' (.pointer (some ⟨bd,0,none⟩)) (anewP d xs fn).2∧Keeps X w w':=by
 obtain ⟨bl,hbl⟩:∃ b,b=w.heap.size:=⟨_,rfl⟩
 obtain ⟨w1,hw1⟩:∃ w1,w1=w.alloc (.cells #[.pointer (some ⟨j,0,none⟩)] 33 (0,0)):=⟨_,rfl⟩
 have b1:=Zb hw1
 have e1:w1.heap.size=bl+1:=by rw [hw1,hbl];simp
 have p1:=Zk hw1 hbl
 obtain ⟨w2,hw2⟩:∃ w2,w2=w1.alloc (.cells #[.int .i64 fn,.slice sx sn sc,.slice ex sn ec] 132 (0,0)):=⟨_,rfl⟩
 have b2:=Zb hw2
 have e2:w2.heap.size=bl+2:=by rw [hw2];simp [e1]
 have p2:Blk w2 (bl+1) 132 #[.int .i64 fn,.slice sx sn sc,.slice ex sn ec]:=by rw [hw2,← e1];exact Blk.alloc_new w1 _ _
 obtain ⟨w3,hw3⟩:∃ w3,w3=w2.alloc (.cells #[.string FT] 9 (0,0)):=⟨_,rfl⟩
 have b3:=Zb hw3
 have e3:w3.heap.size=bl+3:=by rw [hw3];simp [e2]
 have p3:Blk w3 (bl+2) 9 #[.string FT]:=by rw [hw3,← e2];exact Blk.alloc_new w2 _ _
 have key:∀ ty,Calls Tryz.prog 193 #[.slice (some ⟨bl+1+1+1,0,none⟩) 3 3] (w3.alloc (.cells #[.func (.func 194) #[] #[.pointer (some ⟨bl,0,none⟩),.pointer (some ⟨bl+1+1,0,none⟩),.pointer (some ⟨bl+1,0,none⟩)],.func (.func 195) #[] #[.pointer (some ⟨bl,0,none⟩)],.func (.func 196) #[] #[.pointer (some ⟨bl,0,none⟩),.pointer (some ⟨bl+1,0,none⟩)]] ty (0,0)))
   fun e w' => ∃ r,e=.returned (.int .i64 r)∧r=(anewP d xs fn).1∧Live w0 X w' (.pointer (some ⟨bd,0,none⟩)) (anewP d xs fn).2∧Keeps X w w':=by
  intro ty
  obtain ⟨w4,hw4⟩:∃ w4,w4=w3.alloc (.cells #[.func (.func 194) #[] #[.pointer (some ⟨bl,0,none⟩),.pointer (some ⟨bl+1+1,0,none⟩),.pointer (some ⟨bl+1,0,none⟩)],.func (.func 195) #[] #[.pointer (some ⟨bl,0,none⟩)],.func (.func 196) #[] #[.pointer (some ⟨bl,0,none⟩),.pointer (some ⟨bl+1,0,none⟩)]] ty (0,0)):=⟨_,rfl⟩
  rw [← hw4]
  have b4:=Zb hw4
  have e4:w4.heap.size=bl+4:=by rw [hw4];simp [e3]
  have p4:Blk w4 (bl+3) ty #[.func (.func 194) #[] #[.pointer (some ⟨bl,0,none⟩),.pointer (some ⟨bl+1+1,0,none⟩),.pointer (some ⟨bl+1,0,none⟩)],.func (.func 195) #[] #[.pointer (some ⟨bl,0,none⟩)],.func (.func 196) #[] #[.pointer (some ⟨bl,0,none⟩),.pointer (some ⟨bl+1,0,none⟩)]]:=by rw [hw4,← e3];exact Blk.alloc_new w3 _ _
  have b34:Below w2.heap.size w2 w4:=b3.trans (b4.mono b3.size)
  have b24:Below w1.heap.size w1 w4:=b2.trans (b34.mono b2.size)
  have b14:Below w.heap.size w w4:=b1.trans (b24.mono b1.size)
  have q1:=p1.below b24
  have q2:=p2.below b34
  have q3:=p3.below b4
  have hl4:=h.add b14
  have hin:∀ k,bl≤k→k<bl+4→Also X w w4 k:=fun k h1 h2 => .inr ⟨by rw [← hbl];exact h1,by rw [e4];exact h2⟩
  have keepA:∀ W,Keeps (Also X w w4) w4 W→AnF bd j bl (bl+1) (bl+1+1) fn sn sc ec sx ex FT W:=fun W hW => by
   have r1:=q1.chg hW fun e => e (hin _ (by omega) (by omega))
   have r2:=q2.chg hW fun e => e (hin _ (by omega) (by omega))
   have r3:=q3.chg hW fun e => e (hin _ (by omega) (by omega))
   have hjl:=h.lt j hjX
   refine ⟨r1.cell 0,?_,r3.cell 0,r2.cell 0,r2.cell 1,r2.cell 2⟩
   rw [Chg.cell hW (p:=⟨j,0,none⟩) (Nat.lt_of_lt_of_le hjl b14.size) (fun e => e (.inl hjX)),Below.cell b14 (p:=⟨j,0,none⟩) hjl]
   exact hj
  have keepG:∀ W,Keeps (Also X w w4) w4 W→Blk W (bl+3) ty _:=fun W hW => p4.chg hW fun e => e (hin _ (by omega) (by omega))
  have fin:∀ W r D,Live w0 (Also X w w4) W (.pointer (some ⟨bd,0,none⟩)) D→Keeps (Also X w w4) w4 W→(r,D)=anewP d xs fn→r=(anewP d xs fn).1∧Live w0 X W (.pointer (some ⟨bd,0,none⟩)) (anewP d xs fn).2∧Keeps X w W:=fun W r D hL hK e => by
   rw [← e]
   exact ⟨rfl,hL.drop fun k hk => .inl hk,(Keeps.below b14).trans (hK.mono fun k hk => .inl hk)⟩
  obtain ⟨z,hz1⟩:∃ z,z=d.append lnew (sgT xs):=⟨_,rfl⟩
  obtain ⟨r1,d1⟩:=z
  obtain ⟨u,hu1⟩:∃ u,u=d1.sync lnew:=⟨_,rfl⟩
  obtain ⟨r2,d2⟩:=u
  obtain ⟨y,hy1⟩:∃ y,y=d2.rename lnew (ln fn):=⟨_,rfl⟩
  obtain ⟨r3,d3⟩:=y
  have f1:r1≠0→(r1,d1)=anewP d xs fn:=fun e => by unfold anewP;rw [← hz1];simp only;rw [if_pos e]
  have f2:r1=0→r2≠0→(r2,d2)=anewP d xs fn:=fun e e' => by unfold anewP;rw [← hz1];simp only;rw [if_neg (fun k => k e),← hu1];simp only;rw [if_pos e']
  have f3:r1=0→r2=0→(r3,d3)=anewP d xs fn:=fun e e' => by unfold anewP;rw [← hz1];simp only;rw [if_neg (fun k => k e),← hu1];simp only;rw [if_neg (fun k => k e'),← hy1]
  refine first3_any (P1:=fun W => r1=0∧Live w0 (Also X w w4) W (.pointer (some ⟨bd,0,none⟩)) d1∧Keeps (Also X w w4) w4 W) (P2:=fun W => r1=0∧r2=0∧Live w0 (Also X w w4) W (.pointer (some ⟨bd,0,none⟩)) d2∧Keeps (Also X w w4) w4 W)
   (Q:=fun r W => r=(anewP d xs fn).1∧Live w0 X W (.pointer (some ⟨bd,0,none⟩)) (anewP d xs fn).2∧Keeps X w W) enters_anew1 enters_anew2 enters_anew3 (p4.cell 0) (fun W hW => (keepG W hW.2.2).cell 1) (fun W hW => (keepG W hW.2.2.2).cell 2) ?_ ?_ ?_
  · refine (anew1_any hl4 keepA (OwnI.kept hev b14) hsn hmay hm hle hft hz hz1.symm).mono ?_
    rintro e W ⟨rfl,hL,hK⟩
    exact ⟨r1,rfl,fun e => ⟨e,hL,hK⟩,fun e => fin W r1 d1 hL hK (f1 e)⟩
  · rintro W ⟨e0,hL,hK⟩
    refine (anew2_any hL (keepA W hK) hu1.symm).mono ?_
    rintro e W2 ⟨rfl,hL2,hK2⟩
    exact ⟨r2,rfl,fun e => ⟨e0,e,hL2,hK.trans hK2⟩,fun e => fin W2 r2 d2 hL2 (hK.trans hK2) (f2 e0 e)⟩
  rintro W ⟨e0,e1,hL,hK⟩
  refine (anew3_any hL (he.below hL.below) (fun W2 hW2 => keepA W2 (hK.trans hW2)) hfn hy1.symm).mono ?_
  rintro e W3 ⟨rfl,hL3,hK3⟩
  exact ⟨r3,rfl,fin W3 r3 d3 hL3 (hK.trans hK3) (f3 e0 e1)⟩
 have KEY:=Zh key
 have HW1:=Zh hw1
 have HW2:=Zh hw2
 have HW3:=Zh hw3
 have HBL:=Zh hbl
 clear key h he hj hjX hev hsn hfn hmay hm hle hft hz hbl hw1 hw2 hw3 b1 b2 b3 e1 e2 e3 p1 p2 p3
 unfold segVal
 go_enter Tryz.func168,Tryz.ntmps168
 go_wp2_with fail
 rw [← HBL.out,← HW1.out,← HW2.out,← HW3.out]
 refine (KEY.out _).mono ?_
 rintro e w' ⟨r,rfl,rfl,hl,hk⟩
 have HL:=Zh hl
 have HK:=Zh hk
 clear hl hk
 go_wp2_with fail
 go_ret
 exact ⟨rfl,HL.out,HK.out⟩
end
end Go.Proofs.YtdacanghbepjpaaGreatDoor
namespace Go.Proofs.YtdacanghbepjpaaGreatDoor
open Go.RowKit Go.Maps
open Dsk
section
variable {w0 w w':World} {X:Nat→Prop} {v:Value} {d:Dk} {l:List Sg} {t:Str} {s:Nat} {dr:Files}
theorem LSt.first_le (h:LSt d l t s dr) (hb:nextOf l≤999999999) {a:Sg} (ha:a∈l):a.first≤999999999:=Nat.le_trans ((nextOf_above h.sgs.chain).1 a ha) hb
theorem LSt.size_of (h:LSt d l t s dr) {a:Sg} (ha:a∈l):(fileT l t a).size≤1048576:=by
 obtain ⟨s',hg⟩:=h.file_of ha
 have h1:=del_total (rising_apart h.ok.rising) hg
 have h2:=h.ok.fits
 have h3:=h.ok.room2
 have h4:(fileT l t a).size=(sgT a.spans++tornOf l t a).length:=by unfold fileT;exact List.size_toArray
 simp only at h1
 omega
theorem LSt.rise (h:LSt d l t s dr):l.Pairwise fun a b => a.first<b.first:=(chained_rise _ h.sgs.chain).imp fun h => h.1
theorem fileT_data (a:Sg):(fileT l t a).data.toList=sgT a.spans++tornOf l t a:=by simp [fileT]
theorem LogRows.shape {B:Nat} {lv:Value} {vs:List SegV} {c:List Sg} (hr:LogRows B w lv vs c):∀ a∈vs,SegShape a:=fun a ha => by
 obtain ⟨i,hi,rfl⟩:=List.mem_iff_getElem.1 ha
 have hs:=hr.each i hi (hr.len ▸ hi)
 obtain ⟨sx,sc,hsv⟩:=OwnRow.shape hs.spans
 obtain ⟨ex,ec,hev,_⟩:=hs.ends.each
 exact ⟨_,_,_,_,_,_,hsv,hev⟩
theorem LogRows.first_at {B:Nat} {lv:Value} {vs:List SegV} {c:List Sg} (hr:LogRows B w lv vs c) (i:Nat) (hi:i<vs.length) (hi':i<c.length):vs[i].first=c[i].first:=(hr.each i hi hi').first
theorem named_le {x:Str} (h:Named x):x.length≤1000:=by
 unfold Named at h
 omega
theorem OwnS.chgS {B:Nat} {S:Nat→Prop} {u:Value} {m:List ByteArray} (h:OwnS w B u m) (x:Chg S w w') (hS:∀ k,u.ownBlock=some k→¬ S k):OwnS w' B u m:=by
 have h1:OwnRow strRow 1 9 w B u m:=by unfold OwnRow;rw [flat_strRow];exact h
 have h2:=OwnRow.chg h1 x hS
 unfold OwnRow at h2
 rw [flat_strRow] at h2
 exact h2
theorem OwnS.heapS {B:Nat} {u:Value} {m:List ByteArray} (h:OwnS w B u m) {k:Nat} (hk:u.ownBlock=some k):∃ cs,w.heap[k]?=some (.cells cs 9 (0,0)):=by
 have h1:OwnRow strRow 1 9 w B u m:=by unfold OwnRow;rw [flat_strRow];exact h
 exact OwnRow.heap h1 hk
theorem LogRows.base {B B':Nat} {lv:Value} {vs:List SegV} {c:List Sg} (hr:LogRows B w lv vs c) (hB:B'≤B):LogRows B' w lv vs c :=
 ⟨OwnRow.base hr.row hB,hr.len,fun i hi hi' => ⟨(hr.each i hi hi').first,OwnRow.base (hr.each i hi hi').spans hB,(hr.each i hi hi').ends.base hB⟩,hr.apart⟩
def OpenPost (w0:World) (X:Nat→Prop) (w:World) (v:Value) (d:Dk) (l:List Sg) (t:Str) (e:Ending) (w':World):Prop :=
 ((openP d l t).1=0∧∃ j,e=.returned (.tuple #[.pointer (some ⟨j,0,none⟩),.int .i64 0])∧∃ N,NewIn w w' N∧HS w0 (Plus X N) N w' v (openP d l t).2 j ⟨d.starts,false,l⟩∧Keeps X w w') ∨
 ((openP d l t).1≠0∧e=.returned (.tuple #[.pointer none,.int .i64 (openP d l t).1])∧Live w0 X w' v (openP d l t).2∧Keeps X w w')
set_option maxHeartbeats 32000000 in
theorem hopen_any (h:Live w0 X w v d) (hoff:d.off=false) (he0:LEnv w0) (hs:LSt d l t s dr) (hb:nextOf l≤999999999) :
  Calls Tryz.prog 101 #[v] w (OpenPost w0 X w v d l t):=by
 have he:=he0.below h.below
 have HE0:=Zh he0
 have HU:=Zh h.up
 rw [hoff] at HU
 have HST:=Zh h.starts
 obtain ⟨a,rfl⟩:=h.ptr
 obtain ⟨st,hst⟩:∃ st,st=d.starts:=⟨_,rfl⟩
 rw [← hst] at HST
 have HSTD:=Zh hst
 obtain ⟨q,hq⟩:∃ q,q=w.heap.size:=⟨_,rfl⟩
 obtain ⟨w1,hw1⟩:∃ w1,w1=w.alloc (.cells #[.pointer (some ⟨a,0,none⟩),.int .i64 st,.bool false,.slice none 0 0] 136 (0,0)):=⟨_,rfl⟩
 have hb1:=Zb hw1
 have hk1:=Zk hw1 hq
 obtain ⟨ns,hns⟩:∃ ns,ns=names d.files:=⟨_,rfl⟩
 have hnm:=(h.keep hb1).names
 rw [← hns] at hnm
 have HNM:=Zh hnm
 have HNS:=Zh hns
 have HB1:=Zh hb1
 have HK1:=Zh hk1
 have HW1:=Zh hw1
 have HQ:=Zh hq
 have HH:=Zh h
 have HE:=Zh he
 have HLS:=Zh hs
 have HBN:=Zh hb
 have HOFF:=Zh hoff
 clear h hoff he hs hb hst hb1 hk1 hw1 hns hnm
 go_enter Tryz.func101,Tryz.ntmps101
 go_wp2_with fail
 refine HU.out.mono ?_
 rintro e w2 ⟨rfl,rfl⟩
 go_wp2_with fail
 refine HST.out.mono ?_
 rintro e w2 ⟨rfl,rfl⟩
 go_wp2_with fail
 rw [← HW1.out,← hq]
 clear hq
 refine HNM.out.mono ?_
 rintro e w2 ⟨u,rfl,hou,hb2⟩
 obtain ⟨ux,uc,hu,_⟩:=OwnS.each hou
 rw [strs_length] at hu
 obtain ⟨nn,hnn⟩:∃ nn,nn=ns.length:=⟨_,rfl⟩
 rw [← hnn] at hu
 subst hu
 have hnn9:nn≤1024:=by rw [hnn,HNS.out];unfold names;rw [List.length_map];exact HLS.out.ok.count
 have HI2:=Zh (show OpInv w a q st l t [] (.slice none 0 0) w2 from ⟨.slice none 0 0,[],HK1.out.below hb2,by rw [came_nil];exact ⟨OwnRow.nil _ _,rfl,fun i hi => absurd hi (by simp),fun i k hi => absurd hi (by simp)⟩,by rw [came_nil];exact OwnRow.nil _ _,HB1.out.trans (hb2.mono HB1.out.size)⟩)
 have HOU:=Zh hou
 have HNN:=Zh hnn
 clear hou hb2 hnn HNM HST HU
 go_wp2_with fail
 go_loopw [5,32] (fun v5 v32 wr => ∃ k:Nat,v32=.int .i64 k∧k≤nn∧OpInv w a q st l t (ns.take k) v5 wr∧OwnS wr w1.heap.size (.slice ux nn uc) (strs ns)∧∀ b,(Value.slice ux nn uc).ownBlock=some b→v5.ownBlock≠some b) (fun _ v32 _ => nn-(intOf v32).toNat)
 case atStart => exact ⟨0,rfl,Nat.zero_le _,HI2.out,HOU.out,fun b _ e => (by cases e)⟩
 case round =>
 obtain ⟨k,rfl,hk,hinv,hou,hdis⟩:=hrel
 have HI:=Zh hinv
 have HO:=Zh hou
 have HD:=Zh hdis
 clear hinv hou hdis
 by_cases hkn:k<nn
 · have hkl:k<ns.length:=by rw [← HNN.out];exact hkn
   have hkn2:(k:Int)<nn:=by omega
   obtain ⟨ux2,uc2,hu,hel⟩:=OwnS.each HO.out
   obtain ⟨b,hux,hbB,hbl,hcell⟩:=hel k (by rw [strs_length];exact hkl)
   have hu1:ux=ux2:=by injection hu
   rw [hux] at hu1
   subst hu1
   have hsk:(strs ns)[k]'(by rw [strs_length];exact hkl)=⟨(ns[k]).toArray⟩:=by simp [strs]
   rw [hsk] at hcell
   obtain ⟨lv,vs,hkq,hrows,htx,hbw⟩:=HI.out
   have htk:ns.take (k+1)=ns.take k++[ns[k]]:=List.take_succ_eq_append_getElem hkl
   have hnin:ns[k]∈names d.files:=by rw [← HNS.out];exact List.getElem_mem hkl
   have HKQ:=Zh hkq
   have HR:=Zh hrows
   have HTX:=Zh htx
   have HBW:=Zh hbw
   have HTK:=Zh htk
   rcases HLS.out.name_is hnin with ⟨sg,hsg,hnm⟩ | ⟨hnm,hne⟩
   · rw [hnm] at hcell
     have hnB:(⟨(ln sg.first).toArray⟩:ByteArray)=lnB sg.first:=rfl
     rw [hnB] at hcell
     rw [hnm] at HTK
     have hfl:=HLS.out.first_le HBN.out hsg
     have HNU:=Zh (hnum_log (HE.out.below hbw) hfl)
     have HRE:=Zh (fun (W:World) (hW:Below wr.heap.size wr W) => hseg_any (HH.out.keep (HBW.out.trans (hW.mono HBW.out.size))) (HE.out.below (HBW.out.trans (hW.mono HBW.out.size))) hfl sg.spans (tornOf l t sg) (fun x hx => HLS.out.sgs.may sg hsg x hx) (HLS.out.torn_of sg) (fileT l t sg) (fileT_data sg) (HLS.out.size_of hsg) 0 (by rw [fileT_data];exact HLS.out.read_of HOFF.out hsg))
     obtain ⟨fn,hfn⟩:∃ fn,fn=sg.first:=⟨_,rfl⟩
     obtain ⟨FT,hFT⟩:∃ FT,FT=fileT l t sg:=⟨_,rfl⟩
     obtain ⟨LB,hLB⟩:∃ LB,LB=lnB sg.first:=⟨_,rfl⟩
     rw [← hLB] at hcell HNU
     rw [← hfn] at HNU HRE hfl
     rw [← hFT] at HRE
     have HFN:=Zh hfn
     have HFT:=Zh hFT
     have HSG:=Zh hsg
     clear hnm hnB hfn hFT hLB hsk htk hnin hel hu hkq hrows htx hbw hsg
     go_wp2_with fail
     refine HNU.out.mono ?_
     rintro e y1 ⟨rfl,hb1⟩
     have HC1:=Zh hb1
     clear hb1 hcell
     go_wp2_with fail
     refine (HRE.out y1 HC1.out).mono ?_
     rintro e y2 ⟨sv,ev,rfl,hsp,hen,hb2⟩
     obtain ⟨sx,sc,hsv⟩:=OwnRow.shape hsp
     obtain ⟨ex,ec,hev,_⟩:=hen.each
     rw [sgEnds_length] at hev
     obtain ⟨sn,hsn⟩:∃ sn,sn=sg.spans.length:=⟨_,rfl⟩
     rw [← hsn] at hsv hev
     subst hsv
     subst hev
     have HC2:=Zh (HC1.out.trans (hb2.mono HC1.out.size))
     have HSP:=Zh hsp
     have HEN:=Zh hen
     unfold segVal
     clear hsp hen hb2 hsn
     obtain ⟨bx,hbx⟩:∃ bx,bx=y2.heap.size:=⟨_,rfl⟩
     obtain ⟨y3,hy3⟩:∃ y3,y3=y2.alloc (.cells #[.int .i64 fn,.slice sx sn sc,.slice ex sn ec] 132 (0,0)):=⟨_,rfl⟩
     have hb3:=Zb hy3
     have HK3:=Zh (show Blk y3 bx 132 #[.int .i64 fn,.slice sx sn sc,.slice ex sn ec] by rw [hy3,hbx];exact Blk.alloc_new y2 _ _)
     have HC3:=Zh (HC2.out.trans (hb3.mono HC2.out.size))
     have HY3:=Zh hy3
     have HBX:=Zh (show y2.heap.size≤bx by omega)
     have HB23:=Zh hb3
     have q3:=(HKQ.out.below HC3.out).cell 3
     simp only [Zx] at q3
     rw [hy3] at q3
     clear hb3 hy3
     go_wp2_with fail
     rw [← HY3.out,← hbx]
     clear hbx HY3 q3
     have hr3:=HR.out.chg (S:=fun _ => False) (Chg.of_below HC3.out) fun _ _ e => e
     have hcl:(came l (ns.take k)).length≤1024:=by
      have h1:(came l (ns.take k)).length≤l.length:=by unfold came;exact List.length_filter_le _ _
      have h2:=HLS.out.total.2
      have h3:=HLS.out.ok.count
      omega
     have hris:=came_rise (ns:=ns.take k) HLS.out.rise
     have hfp:=hfind_any (w:=y3) lv vs fn (OwnRow.rd segRow_len hr3.row) hr3.shape (by rw [hr3.len];omega) (fun i j hi hj hij hlt => by
      rw [hr3.first_at i hi (hr3.len ▸ hi)]
      rw [hr3.first_at j hj (hr3.len ▸ hj)] at hlt
      rcases Nat.lt_or_eq_of_le hij with h | h
      · exact Nat.lt_trans (List.pairwise_iff_getElem.1 hris i j (hr3.len ▸ hi) (hr3.len ▸ hj) h) hlt
      subst h;exact hlt)
     have HFP:=Zh hfp
     have HR3:=Zh hr3
     have HCL:=Zh hcl
     clear hr3 hcl hris hfp
     refine HFP.out.mono ?_
     rintro e y4 ⟨r,fd,rfl,hb4,hrv,hf1,hf2⟩
     have HC4:=Zh hb4
     have hrc:r≤(came l (ns.take k)).length:=by rw [← HR3.out.len];exact hrv
     have hnew:came l (ns.take (k+1))=(came l (ns.take k)).take r++sg::(came l (ns.take k)).drop r:=by
      rw [HTK.out]
      refine came_log HLS.out.rise HSG.out ?_ hrc (fun i hi h => ?_) (fun i hi h hlt => ?_)
      · have h1:(names d.files).Pairwise fun a b => a≠b:=List.pairwise_map.2 (rising_apart HLS.out.ok.rising)
        rw [← HNS.out] at h1
        have h2:(ns.take (k+1)).Pairwise fun a b => a≠b:=h1.sublist (List.take_sublist _ _)
        rw [HTK.out,List.pairwise_append] at h2
        exact fun e => h2.2.2 _ e _ (by simp) rfl
      · rw [← HR3.out.first_at i (HR3.out.len.symm ▸ hi) hi,← HFN.out]
        exact hf1 i _ h
      rw [← HR3.out.first_at i (HR3.out.len.symm ▸ hi) hi,← HFN.out] at hlt
      exact hf2 i _ h hlt
     have HNW:=Zh hnew
     have HRC:=Zh hrc
     clear hrv hf1 hf2 hnew hrc hb4 HFP
     go_wp2_with fail
     obtain ⟨x0,hx0⟩:∃ x0,x0=y4.drew:=⟨_,rfl⟩
     have hb40:Below y3.heap.size y3 x0:=by rw [hx0];exact HC4.out.drew
     have hb0:Below wr.heap.size wr x0:=HC3.out.trans (hb40.mono HC3.out.size)
     have hb20:Below y2.heap.size y2 x0:=by
      exact HB23.out.trans (hb40.mono HB23.out.size)
     have hr0:=HR.out.chg (S:=fun _ => False) (Chg.of_below hb0) fun _ _ e => e
     have ht0:=OwnRow.below HTX.out hb0
     obtain ⟨ts,hts⟩:∃ ts,ts=(came l (ns.take k)).map (fileT l t):=⟨_,rfl⟩
     rw [← hts] at ht0
     have hkq0:=HKQ.out.below hb0
     have hkx0:Blk x0 bx 132 #[.int .i64 fn,.slice sx sn sc,.slice ex sn ec]:=HK3.out.below hb40
     have hbl2:∀ b,b∈segBlks (⟨fn,.slice sx sn sc,.slice ex sn ec⟩:SegV)→wr.heap.size≤b:=fun b hb => by
      have hz:=HC1.out.size
      rcases mem_segBlks.1 hb with hb | hb
      · exact Nat.le_trans hz (OwnRow.lt HSP.out b hb).1
      exact Nat.le_trans hz (HEN.out.lt' b hb).1
     have hx0s:SegAt w.heap.size x0 (⟨fn,.slice sx sn sc,.slice ex sn ec⟩:SegV) sg:=by
      have hz:w.heap.size≤y1.heap.size:=Nat.le_trans HBW.out.size HC1.out.size
      exact ⟨HFN.out,(OwnRow.below HSP.out hb20).base hz,(OwnI.kept HEN.out hb20).base hz⟩
     have hnx:∀ b,b∈segBlks (⟨fn,.slice sx sn sc,.slice ex sn ec⟩:SegV)→b ∉ blks vs:=fun b hb hv => by
      have h1:=hbl2 b hb
      have h2:=(HR.out.lt b (.inr hv)).2
      omega
     have HSV:=Zh (fun b (hb:lv.ownBlock=some b∨u5.ownBlock=some b) => show b<x0.heap.size from hb.elim (fun hb => (OwnRow.lt hr0.row b hb).2) (fun hb => (OwnRow.lt ht0 b hb).2))
     have hqs:∀ b,lv.ownBlock=some b∨u5.ownBlock=some b→b≠q∧b≠bx:=fun b hb => by
      have hbw:b<wr.heap.size:=hb.elim (fun hb => (OwnRow.lt HR.out.row b hb).2) (fun hb => (OwnRow.lt HTX.out b hb).2)
      have hz:=HC2.out.size
      refine ⟨fun e => ?_,by have:=HBX.out;omega⟩
      rcases hb with hb | hb
      · obtain ⟨c1,e1⟩:=OwnRow.heap HR.out.row hb
        exact type_ne (e ▸ e1) HKQ.out (by decide)
      obtain ⟨c1,e1⟩:=OwnRow.heap HTX.out hb
      exact type_ne (e ▸ e1) HKQ.out (by decide)
     have HQS:=Zh hqs
     have HPx0:=Zh (show PendO w.heap.size x0 x0 lv u5 vs ts r ⟨fn,.slice sx sn sc,.slice ex sn ec⟩ FT none none from PendO.start hr0.row ht0)
     have HBZ:=Zh (show w.heap.size≤x0.heap.size from Nat.le_trans HBW.out.size hb0.size)
     have hqz:w.heap.size≤q:=by rw [HQ.out];exact Nat.le_refl _
     have HKX:=Zh hkx0
     have HKQ0:=Zh hkq0
     have HNEQ:=Zh (show bx≠q from fun e => type_ne (e ▸ hkx0) hkq0 (by decide))
     have HTT:=Zh (fun (V:World) (hV:Chg (fun b => lv.ownBlock=some b∨u5.ownBlock=some b) x0 V) => show V.cell? ⟨bx,0,none⟩=some (.int .i64 fn)∧V.cell? ⟨bx,1,none⟩=some (.slice sx sn sc)∧V.cell? ⟨bx,2,none⟩=some (.slice ex sn ec) from by
      have k:=HKX.out.chg hV (fun e => (HQS.out _ e).2 rfl)
      exact ⟨k.cell 0,k.cell 1,k.cell 2⟩)
     have HSS:=Zh (fun (V:World) (hV:Chg (fun b => lv.ownBlock=some b∨u5.ownBlock=some b) x0 V) => show V.cell? ⟨q,3,none⟩=some lv from by
      have k:=HKQ0.out.chg hV (fun e => (HQS.out _ e).1 rfl)
      exact k.cell 3)
     have HFZ:=Zh (fun (V:World) (hV:Chg (fun b => lv.ownBlock=some b∨u5.ownBlock=some b) x0 V) => show V.frozen? ⟨q,3,none⟩=false from by
      have k:=HKQ0.out.chg hV (fun e => (HQS.out _ e).1 rfl)
      exact k.free 3)
     have HTS:=Zh (fun (V V2:World) (hV:Chg (fun b => lv.ownBlock=some b∨u5.ownBlock=some b) x0 V) (hV2:Chg (fun b => b=q) V V2) => show V2.cell? ⟨bx,0,none⟩=some (.int .i64 fn)∧V2.cell? ⟨bx,1,none⟩=some (.slice sx sn sc)∧V2.cell? ⟨bx,2,none⟩=some (.slice ex sn ec) from by
      have k:=(HKX.out.chg hV (fun e => (HQS.out _ e).2 rfl)).chg hV2 HNEQ.out
      exact ⟨k.cell 0,k.cell 1,k.cell 2⟩)
     have hou0:=HO.out.chgS (S:=fun _ => False) (Chg.of_below hb0) fun _ _ e => e
     have hol:=World.ownsRow.lt hou0
     have HFNN:=Zh (fun (V:World) (lu tu:Value) (hp:PendO w.heap.size x0 V lv u5 vs ts r ⟨fn,.slice sx sn sc,.slice ex sn ec⟩ FT (some lu) (some tu)) (V2:World) (hV2:V2=V.setCell ⟨q,3,none⟩ lu) => show OpInv w a q st l t (ns.take (k+1)) tu V2∧OwnS V2 w1.heap.size (.slice (some ⟨b,0,none⟩) nn uc) (strs ns)∧∀ b',(Value.slice (some ⟨b,0,none⟩) nn uc).ownBlock=some b'→tu.ownBlock≠some b' from by
      have hob:(Value.slice (some ⟨b,0,none⟩) nn uc).ownBlock=some b:=rfl
      refine ⟨?_,?_,fun b' hb' e => ?_⟩
      · rw [hV2,HTK.out]
        rw [hts,HFT.out] at hp
        rw [hts] at ht0
        exact OpInv.put hqz hkq0 hr0 hx0s (HBW.out.trans (hb0.mono HBW.out.size)) HRC.out (by rw [← HTK.out];exact HNW.out) hnx ht0 hp
      · have h1:=hou0.chgS hp.chg fun b' hb' e => by
         rcases e with e | e
         · obtain ⟨c1,e1⟩:=OwnRow.heap hr0.row e
           obtain ⟨c2,e2⟩:=hou0.heapS hb'
           exact type_ne e1 e2 (by decide)
         exact HD.out b' hb' e
        rw [hV2]
        exact h1.chgS ((Chg.refl (fun k => k=q) V).setCell (p:=⟨q,3,none⟩) (fun _ => rfl) lu) fun b' hb' e => by
         obtain ⟨c2,e2⟩:=hou0.heapS hb'
         exact type_ne (e ▸ e2) hkq0 (by decide)
      rcases hp.str.2 b' e with h1 | h1
      · exact HD.out b' hb' h1
      have:=(hol b' hb').2
      omega)
     obtain ⟨m0,hm0⟩:∃ m0,m0=vs.length:=⟨_,rfl⟩
     have HM0:=Zh hm0.symm
     have HM1:=Zh (show ts.length=m0 by rw [hm0,hts,List.length_map,HR.out.len])
     have HRM:=Zh (show r≤m0 by rw [hm0,HR.out.len];exact HRC.out)
     have HM9:=Zh (show m0≤1000000 by rw [hm0,HR.out.len];have:=HCL.out;omega)
     have HV1:=Zh (show ∀ y∈vs,∀ z∈segRow y,z.oneCell'=true from fun y hy z hz => by
      obtain ⟨_,_,_,_,_,_,e1,e2⟩:=HR.out.shape y hy
      simp only [segRow,List.mem_cons,List.not_mem_nil,or_false] at hz
      rcases hz with rfl | rfl | rfl
      · rfl
      · rw [e1];rfl
      rw [e2];rfl)
     have HX1:=Zh (show ∀ z∈segRow (⟨fn,.slice sx sn sc,.slice ex sn ec⟩:SegV),z.oneCell'=true from fun z hz => by
      simp only [segRow,List.mem_cons,List.not_mem_nil,or_false] at hz
      rcases hz with rfl | rfl | rfl <;> rfl)
     have HV2:=Zh (show ∀ y∈ts,∀ z∈strRow y,z.oneCell'=true from fun y _ z hz => strRow_one y z hz)
     have hT:=HTT.out x0 (Chg.refl _ _)
     have hS:=HSS.out x0 (Chg.refl _ _)
     clear hr0 ht0 hts hkq0 hkx0 hbl2 hx0s hnx hqs hqz hou0 hol hm0 hb40 hb0 hb20
     refine wp_region_two (T:=fun W => W.cell? ⟨bx,0,none⟩=some (.int .i64 fn)∧W.cell? ⟨bx,1,none⟩=some (.slice sx sn sc)∧W.cell? ⟨bx,2,none⟩=some (.slice ex sn ec)) (S:=fun W => W.cell? ⟨q,3,none⟩=some lv) (n:=16) (by kernel_rfl) ?_
     rw [← hx0]
     clear hx0
     refine tk 0 61 hT hS ?_
     refine tk 1 62 hT hS ?_
     try simp only [xq]
     refine tk 2 63 hT hS ?_
     refine tk 3 64 hT hS ?_
     try simp only [xq]
     refine two_take 4 (some 65) (v:=?_) rfl rfl (by kernel_rfl) (by kernel_rfl) (by kernel_rfl) (by kernel_rfl) (by decide) (by kernel_rfl) (fun _ _ _ h => h) (Or.inl ⟨by rfl,?hy4⟩) hT hS ?_
     case hy4 => (intro w' hS';go_simp;(try with_reducible rfl))
     try simp only [xq]
     refine tk 5 66 hT hS ?_
     refine tk 6 67 hT hS ?_
     try simp only [xq]
     refine tk 9 70 hT hS ?_
     refine tk 10 71 hT hS ?_
     try simp only [xq]
     refine tk 11 72 hT hS ?_
     try simp only [xq]
     refine two_two 7 12 rfl rfl (by kernel_rfl) ?_ ?_
     · intro K hK
       go_simp
       obtain ⟨z0,hz0⟩:∃ y,y=x0.alloc (.cells #[.int .i64 fn,.slice sx sn sc,.slice ex sn ec] 132 (0,0)):=⟨_,rfl⟩
       rw [← hz0]
       have hbz0:=Zb hz0
       have HAz0:=Zh (show Blk z0 x0.heap.size 132 (segRow ⟨fn,.slice sx sn sc,.slice ex sn ec⟩).toArray by rw [hz0];exact Blk.alloc_new x0 _ _)
       have HAZ:=Zh (show x0.heap.size≤x0.heap.size from HPx0.out.size)
       have HPz0:=Zh (HPx0.out.below hbz0)
       clear hz0 hbz0
       have hT1:=HTT.out z0 HPz0.out.chg
       have hS1:=HSS.out z0 HPz0.out.chg
       refine hK.out _ _ hT1 (fun _ _ => hS1) ?_
       clear hK K hT hS
       have hT:=hT1
       have hS:=hS1
       clear hT1 hS1
       try simp only [xq]
       refine two_two 8 12 rfl rfl (by kernel_rfl) ?_ ?_
       · intro K hK
         go_simp
         refine (insSeg_any (B:=w.heap.size) (x:=⟨fn,.slice sx sn sc,.slice ex sn ec⟩) (n:=m0) HPz0.out.seg HM0.out HRM.out HM9.out HV1.out HX1.out HAz0.out (fun e => by have:=HSV.out _ (.inl e);have:=HAZ.out;omega) (Nat.le_trans HBZ.out HPz0.out.size)).mono ?_
         rintro e z1 ⟨lu,rfl,ho,hg,hb⟩
         have HPz1:=Zh (HPz0.out.segs ho hg hb)
         obtain ⟨lux,luc,hu⟩:=OwnRow.shape ho
         obtain ⟨lun,hun⟩:∃ lun,lun=(vs.take r++(⟨fn,.slice sx sn sc,.slice ex sn ec⟩:SegV)::vs.drop r).length:=⟨_,rfl⟩
         rw [← hun] at hu
         subst hu
         clear ho hg hb hun
         have hT1:=HTT.out z1 HPz1.out.chg
         have hS1:=HSS.out z1 HPz1.out.chg
         refine hK.out _ _ hT1 (fun _ _ => hS1) ?_
         clear hK K hT hS
         have hT:=hT1
         have hS:=hS1
         clear hT1 hS1
         try simp only [xq]
         refine two_one 12 rfl (by kernel_rfl) ?_
         intro K hK
         go_simp
         obtain ⟨z2,hz2⟩:∃ y,y=z1.alloc (.cells #[.string FT] 9 (0,0)):=⟨_,rfl⟩
         rw [← hz2]
         have hbz2:=Zb hz2
         have HIz2:=Zh (show Blk z2 z1.heap.size 9 (strRow FT).toArray by rw [hz2];exact Blk.alloc_new z1 _ _)
         have HIZ:=Zh (show x0.heap.size≤z1.heap.size from HPz1.out.size)
         have HPz2:=Zh (HPz1.out.below hbz2)
         clear hz2 hbz2
         have hT1:=HTT.out z2 HPz2.out.chg
         have hS1:=HSS.out z2 HPz2.out.chg
         refine hK.out _ _ hT1 (fun _ _ => hS1) ?_
         clear hK K hT hS
         have hT:=hT1
         have hS:=hS1
         clear hT1 hS1
         try simp only [xq]
         refine two_one 13 rfl (by kernel_rfl) ?_
         intro K hK
         go_simp
         refine (insStr_any (B:=w.heap.size) (x:=FT) (n:=m0) HPz2.out.str HM1.out HRM.out HM9.out HV2.out (strRow_one FT) HIz2.out (fun e => by have:=HSV.out _ (.inr e);have:=HIZ.out;omega) (Nat.le_trans HBZ.out HPz2.out.size)).mono ?_
         rintro e z3 ⟨tu,rfl,ho,hg,hb⟩
         have HPz3:=Zh (HPz2.out.strs ho hg hb)
         obtain ⟨tux,tuc,hu⟩:=OwnRow.shape ho
         obtain ⟨tun,hun⟩:∃ tun,tun=(ts.take r++FT::ts.drop r).length:=⟨_,rfl⟩
         rw [← hun] at hu
         subst hu
         clear ho hg hb hun
         have hT1:=HTT.out z3 HPz3.out.chg
         have hS1:=HSS.out z3 HPz3.out.chg
         refine hK.out _ _ hT1 (fun _ _ => hS1) ?_
         clear hK K hT hS
         have hT:=hT1
         have hS:=hS1
         clear hT1 hS1
         try simp only [xq]
         refine tk 14 75 hT hS ?_
         refine tk 15 76 hT hS ?_
         try simp only [xq]
         have f1:=HFZ.out z3 HPz3.out.chg
         refine two_one 16 rfl (by kernel_rfl) ?_
         intro K hK
         go_simp
         obtain ⟨v1,hv1⟩:∃ v1,v1=z3.setCell ⟨q,3,none⟩ (.slice lux lun luc):=⟨_,rfl⟩
         rw [← hv1]
         have hT1:=HTS.out z3 v1 HPz3.out.chg (by rw [hv1];exact (Chg.refl (fun k => k=q) z3).setCell (p:=⟨q,_,none⟩) (fun _ => rfl) _)
         have HZZ:=Zh (HFNN.out z3 _ _ HPz3.out v1 hv1)
         refine hK.out _ _ hT1 (fun _ e => absurd rfl e) ?_
         clear hK K hT hS f1 hv1
         have hT:=hT1
         clear hT1
         try simp only [xq]
         refine two_one 17 rfl (by kernel_rfl) ?_
         intro K hK
         go_simp
         refine hK.out _ _ hT (fun e _ => by exact absurd e (by decide)) ?_
         clear hK K hT
         try simp only [xq]
         refine two_done (by kernel_rfl) ?_ _
         go_wp2_with fail
         go_roundw
         case rel => exact ⟨k+1,by go_num,by omega,HZZ.out⟩
         case measure => simp [intOf];omega
       intro K hK
       go_simp
       obtain ⟨z4,hz4⟩:∃ y,y=z0.alloc (.cells #[.string FT] 9 (0,0)):=⟨_,rfl⟩
       rw [← hz4]
       have hbz4:=Zb hz4
       have HIz4:=Zh (show Blk z4 z0.heap.size 9 (strRow FT).toArray by rw [hz4];exact Blk.alloc_new z0 _ _)
       have HIZ:=Zh (show x0.heap.size≤z0.heap.size from HPz0.out.size)
       have HPz4:=Zh (HPz0.out.below hbz4)
       have HAz4:=Zh (HAz0.out.below hbz4)
       clear hz4 hbz4
       have hT1:=HTT.out z4 HPz4.out.chg
       have hS1:=HSS.out z4 HPz4.out.chg
       refine hK.out _ _ hT1 (fun _ _ => hS1) ?_
       clear hK K hT hS
       have hT:=hT1
       have hS:=hS1
       clear hT1 hS1
       try simp only [xq]
       refine two_one 8 rfl (by kernel_rfl) ?_
       intro K hK
       go_simp
       refine (insSeg_any (B:=w.heap.size) (x:=⟨fn,.slice sx sn sc,.slice ex sn ec⟩) (n:=m0) HPz4.out.seg HM0.out HRM.out HM9.out HV1.out HX1.out HAz4.out (fun e => by have:=HSV.out _ (.inl e);have:=HAZ.out;omega) (Nat.le_trans HBZ.out HPz4.out.size)).mono ?_
       rintro e z5 ⟨lu,rfl,ho,hg,hb⟩
       have HPz5:=Zh (HPz4.out.segs ho hg hb)
       obtain ⟨lux,luc,hu⟩:=OwnRow.shape ho
       obtain ⟨lun,hun⟩:∃ lun,lun=(vs.take r++(⟨fn,.slice sx sn sc,.slice ex sn ec⟩:SegV)::vs.drop r).length:=⟨_,rfl⟩
       rw [← hun] at hu
       subst hu
       have HIz5:=Zh (HIz4.out.chg (chg_of_grown hg) (fun e => by have:=HSV.out _ (.inl e);have:=HIZ.out;omega))
       clear ho hg hb hun
       have hT1:=HTT.out z5 HPz5.out.chg
       have hS1:=HSS.out z5 HPz5.out.chg
       refine hK.out _ _ hT1 (fun _ _ => hS1) ?_
       clear hK K hT hS
       have hT:=hT1
       have hS:=hS1
       clear hT1 hS1
       try simp only [xq]
       refine two_one 13 rfl (by kernel_rfl) ?_
       intro K hK
       go_simp
       refine (insStr_any (B:=w.heap.size) (x:=FT) (n:=m0) HPz5.out.str HM1.out HRM.out HM9.out HV2.out (strRow_one FT) HIz5.out (fun e => by have:=HSV.out _ (.inr e);have:=HIZ.out;omega) (Nat.le_trans HBZ.out HPz5.out.size)).mono ?_
       rintro e z6 ⟨tu,rfl,ho,hg,hb⟩
       have HPz6:=Zh (HPz5.out.strs ho hg hb)
       obtain ⟨tux,tuc,hu⟩:=OwnRow.shape ho
       obtain ⟨tun,hun⟩:∃ tun,tun=(ts.take r++FT::ts.drop r).length:=⟨_,rfl⟩
       rw [← hun] at hu
       subst hu
       clear ho hg hb hun
       have hT1:=HTT.out z6 HPz6.out.chg
       have hS1:=HSS.out z6 HPz6.out.chg
       refine hK.out _ _ hT1 (fun _ _ => hS1) ?_
       clear hK K hT hS
       have hT:=hT1
       have hS:=hS1
       clear hT1 hS1
       try simp only [xq]
       refine tk 14 75 hT hS ?_
       refine tk 15 76 hT hS ?_
       try simp only [xq]
       have f1:=HFZ.out z6 HPz6.out.chg
       refine two_one 16 rfl (by kernel_rfl) ?_
       intro K hK
       go_simp
       obtain ⟨v1,hv1⟩:∃ v1,v1=z6.setCell ⟨q,3,none⟩ (.slice lux lun luc):=⟨_,rfl⟩
       rw [← hv1]
       have hT1:=HTS.out z6 v1 HPz6.out.chg (by rw [hv1];exact (Chg.refl (fun k => k=q) z6).setCell (p:=⟨q,_,none⟩) (fun _ => rfl) _)
       have HZZ:=Zh (HFNN.out z6 _ _ HPz6.out v1 hv1)
       refine hK.out _ _ hT1 (fun _ e => absurd rfl e) ?_
       clear hK K hT hS f1 hv1
       have hT:=hT1
       clear hT1
       try simp only [xq]
       refine two_one 17 rfl (by kernel_rfl) ?_
       intro K hK
       go_simp
       refine hK.out _ _ hT (fun e _ => by exact absurd e (by decide)) ?_
       clear hK K hT
       try simp only [xq]
       refine two_done (by kernel_rfl) ?_ _
       go_wp2_with fail
       go_roundw
       case rel => exact ⟨k+1,by go_num,by omega,HZZ.out⟩
       case measure => simp [intOf];omega
     intro K hK
     go_simp
     obtain ⟨z7,hz7⟩:∃ y,y=x0.alloc (.cells #[.string FT] 9 (0,0)):=⟨_,rfl⟩
     rw [← hz7]
     have hbz7:=Zb hz7
     have HIz7:=Zh (show Blk z7 x0.heap.size 9 (strRow FT).toArray by rw [hz7];exact Blk.alloc_new x0 _ _)
     have HIZ:=Zh (show x0.heap.size≤x0.heap.size from HPx0.out.size)
     have HPz7:=Zh (HPx0.out.below hbz7)
     clear hz7 hbz7
     have hT1:=HTT.out z7 HPz7.out.chg
     have hS1:=HSS.out z7 HPz7.out.chg
     refine hK.out _ _ hT1 (fun _ _ => hS1) ?_
     clear hK K hT hS
     have hT:=hT1
     have hS:=hS1
     clear hT1 hS1
     try simp only [xq]
     refine two_one 7 rfl (by kernel_rfl) ?_
     intro K hK
     go_simp
     obtain ⟨z8,hz8⟩:∃ y,y=z7.alloc (.cells #[.int .i64 fn,.slice sx sn sc,.slice ex sn ec] 132 (0,0)):=⟨_,rfl⟩
     rw [← hz8]
     have hbz8:=Zb hz8
     have HAz8:=Zh (show Blk z8 z7.heap.size 132 (segRow ⟨fn,.slice sx sn sc,.slice ex sn ec⟩).toArray by rw [hz8];exact Blk.alloc_new z7 _ _)
     have HAZ:=Zh (show x0.heap.size≤z7.heap.size from HPz7.out.size)
     have HPz8:=Zh (HPz7.out.below hbz8)
     have HIz8:=Zh (HIz7.out.below hbz8)
     clear hz8 hbz8
     have hT1:=HTT.out z8 HPz8.out.chg
     have hS1:=HSS.out z8 HPz8.out.chg
     refine hK.out _ _ hT1 (fun _ _ => hS1) ?_
     clear hK K hT hS
     have hT:=hT1
     have hS:=hS1
     clear hT1 hS1
     try simp only [xq]
     refine two_one 8 rfl (by kernel_rfl) ?_
     intro K hK
     go_simp
     refine (insSeg_any (B:=w.heap.size) (x:=⟨fn,.slice sx sn sc,.slice ex sn ec⟩) (n:=m0) HPz8.out.seg HM0.out HRM.out HM9.out HV1.out HX1.out HAz8.out (fun e => by have:=HSV.out _ (.inl e);have:=HAZ.out;omega) (Nat.le_trans HBZ.out HPz8.out.size)).mono ?_
     rintro e z9 ⟨lu,rfl,ho,hg,hb⟩
     have HPz9:=Zh (HPz8.out.segs ho hg hb)
     obtain ⟨lux,luc,hu⟩:=OwnRow.shape ho
     obtain ⟨lun,hun⟩:∃ lun,lun=(vs.take r++(⟨fn,.slice sx sn sc,.slice ex sn ec⟩:SegV)::vs.drop r).length:=⟨_,rfl⟩
     rw [← hun] at hu
     subst hu
     have HIz9:=Zh (HIz8.out.chg (chg_of_grown hg) (fun e => by have:=HSV.out _ (.inl e);have:=HIZ.out;omega))
     clear ho hg hb hun
     have hT1:=HTT.out z9 HPz9.out.chg
     have hS1:=HSS.out z9 HPz9.out.chg
     refine hK.out _ _ hT1 (fun _ _ => hS1) ?_
     clear hK K hT hS
     have hT:=hT1
     have hS:=hS1
     clear hT1 hS1
     try simp only [xq]
     refine two_one 13 rfl (by kernel_rfl) ?_
     intro K hK
     go_simp
     refine (insStr_any (B:=w.heap.size) (x:=FT) (n:=m0) HPz9.out.str HM1.out HRM.out HM9.out HV2.out (strRow_one FT) HIz9.out (fun e => by have:=HSV.out _ (.inr e);have:=HIZ.out;omega) (Nat.le_trans HBZ.out HPz9.out.size)).mono ?_
     rintro e z10 ⟨tu,rfl,ho,hg,hb⟩
     have HPz10:=Zh (HPz9.out.strs ho hg hb)
     obtain ⟨tux,tuc,hu⟩:=OwnRow.shape ho
     obtain ⟨tun,hun⟩:∃ tun,tun=(ts.take r++FT::ts.drop r).length:=⟨_,rfl⟩
     rw [← hun] at hu
     subst hu
     clear ho hg hb hun
     have hT1:=HTT.out z10 HPz10.out.chg
     have hS1:=HSS.out z10 HPz10.out.chg
     refine hK.out _ _ hT1 (fun _ _ => hS1) ?_
     clear hK K hT hS
     have hT:=hT1
     have hS:=hS1
     clear hT1 hS1
     try simp only [xq]
     refine tk 14 75 hT hS ?_
     refine tk 15 76 hT hS ?_
     try simp only [xq]
     have f1:=HFZ.out z10 HPz10.out.chg
     refine two_one 16 rfl (by kernel_rfl) ?_
     intro K hK
     go_simp
     obtain ⟨v1,hv1⟩:∃ v1,v1=z10.setCell ⟨q,3,none⟩ (.slice lux lun luc):=⟨_,rfl⟩
     rw [← hv1]
     have hT1:=HTS.out z10 v1 HPz10.out.chg (by rw [hv1];exact (Chg.refl (fun k => k=q) z10).setCell (p:=⟨q,_,none⟩) (fun _ => rfl) _)
     have HZZ:=Zh (HFNN.out z10 _ _ HPz10.out v1 hv1)
     refine hK.out _ _ hT1 (fun _ e => absurd rfl e) ?_
     clear hK K hT hS f1 hv1
     have hT:=hT1
     clear hT1
     try simp only [xq]
     refine two_one 17 rfl (by kernel_rfl) ?_
     intro K hK
     go_simp
     refine hK.out _ _ hT (fun e _ => by exact absurd e (by decide)) ?_
     clear hK K hT
     try simp only [xq]
     refine two_done (by kernel_rfl) ?_ _
     go_wp2_with fail
     go_roundw
     case rel => exact ⟨k+1,by go_num,by omega,HZZ.out⟩
     case measure => simp [intOf];omega
   have hcm:came l (ns.take (k+1))=came l (ns.take k):=by rw [HTK.out];exact came_other hne
   have HNV:=Zh (fun (W:World) (hW:Below wr.heap.size wr W) => show OpInv w a q st l t (ns.take (k+1)) u5 W from ⟨lv,vs,HKQ.out.below hW,by rw [hcm];exact HR.out.chg (S:=fun _ => False) (Chg.of_below hW) fun _ _ e => e,by rw [hcm];exact OwnRow.below HTX.out hW,HBW.out.trans (hW.mono HBW.out.size)⟩)
   have hnu:Calls Tryz.prog 160 #[.string ⟨(ns[k]).toArray⟩] wr fun e w' => e=.returned (.tuple #[.int .i64 0,.bool false])∧Below wr.heap.size wr w':=by
    rcases hnm with e | e
    · rw [e]
      exact hnum_draft (HE.out.below hbw)
    have hsz:ns[k].length≤1000:=by
     obtain ⟨p,hp,he⟩:=List.mem_map.1 hnin
     have:=HLS.out.ok.named p hp
     rw [← he]
     exact named_le this
    refine (hnum_other ⟨(ns[k]).toArray⟩ (by show (ns[k]).toArray.size≤maxLen;rw [List.size_toArray];unfold maxLen;omega) (by simpa using e)).mono ?_
    rintro e w' ⟨rfl,rfl⟩
    exact ⟨rfl,Below.refl _ _⟩
   obtain ⟨LB,hLB⟩:∃ LB:ByteArray,LB=⟨(ns[k]).toArray⟩:=⟨_,rfl⟩
   rw [← hLB] at hcell hnu
   have HNU:=Zh hnu
   have HOW:=Zh (fun (W:World) (hW:Below wr.heap.size wr W) => HO.out.chgS (S:=fun _ => False) (Chg.of_below hW) fun _ _ e => e)
   clear hnm hne hLB hsk htk hnin hel hu hkq hrows htx hbw hcm hnu
   go_wp2_with fail
   refine HNU.out.mono ?_
   rintro e y1 ⟨rfl,hb1⟩
   have HC1:=Zh hb1
   clear hb1 hcell
   go_wp2_with fail
   go_roundw
   case rel => exact ⟨k+1,by go_num,by omega,HNV.out y1 HC1.out,HOW.out y1 HC1.out,HD.out⟩
   case measure => simp [intOf];omega
 obtain ⟨wo,rfl⟩:∃ W,W=wr:=⟨_,rfl⟩
 obtain rfl:k=nn:=by omega
 have hge:¬ (k:Int)<k:=by omega
 obtain ⟨lv,vs,hkq,hrows,htx,hbw⟩:=HI.out
 have hall:came l (ns.take k)=l:=by
  rw [List.take_of_length_le (by rw [← HNN.out];exact Nat.le_refl _)]
  exact came_all fun b hb => by rw [HNS.out];exact HLS.out.name_in hb
 rw [hall] at hrows htx
 have HKQ:=Zh hkq
 have HR:=Zh hrows
 have HTX:=Zh htx
 have HBW:=Zh hbw
 obtain ⟨lx,lc,hlv⟩:=OwnRow.shape hrows.row
 obtain ⟨m,hm⟩:∃ m,m=l.length:=⟨_,rfl⟩
 rw [hrows.len,← hm] at hlv
 subst hlv
 obtain ⟨tx,tc,htv⟩:=OwnRow.shape htx
 rw [List.length_map,← hm] at htv
 subst htv
 have hmc:m≤lc:=by
  obtain ⟨x,c',e,hc',_⟩:=OwnRow.rd segRow_len hrows.row
  rw [hrows.len,← hm] at hc'
  injection e with _ _ e
  omega
 have hm1024:m≤1024:=by
  have h2:=HLS.out.total.2
  have h3:=HLS.out.ok.count
  omega
 obtain ⟨md,hmd⟩:∃ md,md=m-1:=⟨_,rfl⟩
 have hmx:max ((m:Int)-1) 0=(md:Int):=by omega
 have hwm:IntKind.i64.wrap ((m:Int)-1)=(m:Int)-1:=by rw [IntKind.wrap_i64];omega
 have hmdc:md≤lc:=by omega
 have HMD:=Zh hmd
 have HM:=Zh hm
 have HTC:=Zh (fun (W:World) (hW:Below wo.heap.size wo W) => show W.cell? ⟨q,3,none⟩=some (.slice lx m lc) from (HKQ.out.below hW).cell 3)
 clear hkq hrows htx hbw hall HI HO HD hmd hm hmc
 go_wp2_with fail
 refine wp_region_two (T:=fun W => W.cell? ⟨q,3,none⟩=some (.slice lx m lc)) (S:=fun _ => True) (n:=99) (by kernel_rfl) ?_
 obtain ⟨y1,hy1⟩:∃ y1,y1=wo.drew:=⟨_,rfl⟩
 rw [← hy1]
 have HY1:=Zh (Zd hy1)
 have hS:True:=trivial
 have hT:=HTC.out y1 HY1.out
 clear hy1
 refine tk 0 78 hT hS ?_
 refine tk 1 79 hT hS ?_
 try simp only [xq]
 refine tk 2 80 hT hS ?_
 refine tk 3 81 hT hS ?_
 try simp only [xq]
 refine tk 4 82 hT hS ?_
 refine tk 5 83 hT hS ?_
 try simp only [xq]
 refine tk 6 84 hT hS ?_
 refine tk 7 85 hT hS ?_
 try simp only [xq]
 refine tk 8 86 hT hS ?_
 refine tk 9 87 hT hS ?_
 try simp only [xq]
 refine tk 10 88 hT hS ?_
 refine tk 11 89 hT hS ?_
 try simp only [xq]
 refine tk 12 90 hT hS ?_
 refine tk 13 91 hT hS ?_
 try simp only [xq]
 refine two_done (by kernel_rfl) ?_ _
 clear hT hS
 go_wp2_with fail
 go_loopw [91] (fun v91 W => ∃ i:Nat,v91=.int .i64 i∧i≤md∧Below wo.heap.size wo W) (fun v91 _ => md-(intOf v91).toNat)
 case atStart => exact ⟨0,rfl,Nat.zero_le _,HY1.out⟩
 case round =>
 obtain ⟨i,rfl,hi,hbi⟩:=hrel
 have HBI:=Zh hbi
 clear hbi
 by_cases hin:i<md
 · have hil:i<l.length:=by have:=HMD.out;have:=HM.out;omega
   have hil1:i+1<l.length:=by have:=HMD.out;have:=HM.out;omega
   have hin2:(i:Int)<md:=by omega
   have him:(i:Int)<m:=by omega
   have him1:(i:Int)+1<m:=by have:=HMD.out;omega
   obtain ⟨g,c9,sx,sc,ex,ec,hlv9,hc9,hsi,hi',e1,e2⟩:=HR.out.seg i hil
   have hlx:lx=some ⟨g,0,none⟩:=by injection hlv9
   subst hlx
   obtain ⟨g1,c8,sx1,sc1,ex1,ec1,hlv8,hc8,hsi1,hi1',e11,e21⟩:=HR.out.seg (i+1) hil1
   have hg1:g1=g:=by injection hlv8 with h1;injection h1 with h1;injection h1 with h1;exact h1.symm
   subst hg1
   have htl:i<(l.map (fileT l t)).length:=by rw [List.length_map];exact hil
   obtain ⟨g2,c2,htx9,hct,_,hl2,hcell2⟩:=OwnRow.at_ strRow_len HTX.out i htl
   have htx8:tx=some ⟨g2,0,none⟩:=by injection htx9
   subst htx8
   have t0:=(hcell2 0 _ rfl).1
   rw [List.getElem_map,Nat.mul_one,Nat.add_zero] at t0
   obtain ⟨en,hen⟩:∃ en,en=(sgT l[i].spans).length:=⟨_,rfl⟩
   obtain ⟨FT,hFT⟩:∃ FT,FT=fileT l t l[i]:=⟨_,rfl⟩
   rw [← hFT] at t0
   have hFz:FT.size=en:=by
    rw [hFT,hen]
    have h4:(fileT l t l[i]).size=(sgT l[i].spans++tornOf l t l[i]).length:=by unfold fileT;exact List.size_toArray
    rw [h4,tornOf_none HLS.out.sgs.chain hil1,List.append_nil]
   obtain ⟨hne,hnf⟩:=chained_at l HLS.out.sgs.chain i hil1
   obtain ⟨sn,hsn⟩:∃ sn,sn=l[i].spans.length:=⟨_,rfl⟩
   obtain ⟨fn,hfn⟩:∃ fn,fn=l[i].first:=⟨_,rfl⟩
   obtain ⟨fn1,hfn1⟩:∃ fn1,fn1=l[i+1].first:=⟨_,rfl⟩
   have hsn0:¬ (sn:Int)=0:=by have:=List.length_pos_iff.2 hne;omega
   have hfl1:=HLS.out.first_le HBN.out (List.getElem_mem hil1)
   have hnx:fn1=fn+sn:=by rw [hfn1,hfn,hsn,hnf];rfl
   have k0:=(HBI.out.cell (p:=⟨g1,i*3,none⟩) hsi.lt).trans hsi.c0
   have k1:=(HBI.out.cell (p:=⟨g1,i*3+1,none⟩) hsi.lt).trans hsi.c1
   have k2:=(HBI.out.cell (p:=⟨g1,i*3+2,none⟩) hsi.lt).trans hsi.c2
   have k3:=hsi1.c0
   have hsle:(sgT l[i].spans).length≤1000000000:=by have h9:=HLS.out.size_of (List.getElem_mem hil);rw [← hFT,hFz,hen] at h9;omega
   have HSE:=Zh (fun (W:World) (hW:Below wo.heap.size wo W) => segEnd_any (w:=W) (n:=fn) sx sn sc (OwnI.kept hsi.ends hW) (fun x hx => HLS.out.sgs.may _ (List.getElem_mem hil) x hx) hsle)
   have HSN:=Zh (fun (W:World) => segNext_any (w:=W) (n:=fn) (m:=fn1) sx ex sn sc sn ec hnx (by rw [hfn1];omega))
   rw [← hen] at HSE
   rw [← hsn] at HSE
   unfold segVal at HSE HSN
   rw [← hfn] at k0
   rw [← hsn] at k1 k2
   rw [← hfn1] at k3
   have HTW:=Zh (fun (W:World) (hW:Below wo.heap.size wo W) => show W.cell? ⟨g2,i,none⟩=some (.string FT)∧W.cell? ⟨q,3,none⟩=some (.slice (some ⟨g1,0,none⟩) m lc)∧W.cell? ⟨g1,(i+1)*3,none⟩=some (.int .i64 fn1) from ⟨(hW.cell (p:=⟨g2,i,none⟩) hl2).trans t0,HTC.out W hW,(hW.cell (p:=⟨g1,(i+1)*3,none⟩) hsi1.lt).trans k3⟩)
   clear hlv9 hc9 hsi e1 e2 hi' hlv8 hc8 hi1' e11 e21 hsi1 htl hct hcell2 htx9 hne hnf hen hFT hfn hfn1 hsn hsle
   have HNX9:=Zh hnx
   clear hnx
   obtain ⟨bx,hbx⟩:∃ bx,bx=wr.heap.size:=⟨_,rfl⟩
   obtain ⟨y3,hy3⟩:∃ y3,y3=wr.alloc (.cells #[.int .i64 fn,.slice sx sn sc,.slice ex sn ec] 132 (0,0)):=⟨_,rfl⟩
   have hb3:=Zb hy3
   have HK3:=Zh (show Blk y3 bx 132 #[.int .i64 fn,.slice sx sn sc,.slice ex sn ec] by rw [hy3,hbx];exact Blk.alloc_new wr _ _)
   have HB3:=Zh (HBI.out.trans (hb3.mono HBI.out.size))
   have HY3:=Zh hy3
   clear hb3 hy3
   go_wp2_with fail
   rw [← HY3.out,← hbx]
   clear hbx HY3
   have HTA:=Zh (fun (W:World) (hW:Below y3.heap.size y3 W) => show W.cell? ⟨bx,0,none⟩=some (.int .i64 fn)∧W.cell? ⟨bx,1,none⟩=some (.slice sx sn sc)∧W.cell? ⟨bx,2,none⟩=some (.slice ex sn ec)∧W.cell? ⟨g2,i,none⟩=some (.string FT)∧W.cell? ⟨q,3,none⟩=some (.slice (some ⟨g1,0,none⟩) m lc)∧W.cell? ⟨g1,(i+1)*3,none⟩=some (.int .i64 fn1) from by
    have hk:=HK3.out.below hW
    have ht:=HTW.out W (HB3.out.trans (hW.mono HB3.out.size))
    exact ⟨hk.cell 0,hk.cell 1,hk.cell 2,ht.1,ht.2.1,ht.2.2⟩)
   have hw1:IntKind.i64.wrap ((i:Int)+1)=(i:Int)+1:=by rw [IntKind.wrap_i64];omega
   have hi0:(0:Int)≤(i:Int)+1:=by omega
   have htn1:((i:Int)+1).toNat=i+1:=by omega
   have hlt9:¬ (en:Int)<FT.size:=by omega
   have hlt8:¬ en<FT.size:=by omega
   have hlt7:decide ((en:Int)<FT.size)=false:=by simp;omega
   have hsn7:¬ sn=0:=by omega
   have hsn8:((sn:Int) == 0)=false:=by simp;omega
   clear k0 k1 k2 k3 t0
   refine wp_region_two (T:=fun W => W.cell? ⟨bx,0,none⟩=some (.int .i64 fn)∧W.cell? ⟨bx,1,none⟩=some (.slice sx sn sc)∧W.cell? ⟨bx,2,none⟩=some (.slice ex sn ec)∧W.cell? ⟨g2,i,none⟩=some (.string FT)∧W.cell? ⟨q,3,none⟩=some (.slice (some ⟨g1,0,none⟩) m lc)∧W.cell? ⟨g1,(i+1)*3,none⟩=some (.int .i64 fn1)) (S:=fun _ => True) (n:=99) (by kernel_rfl) ?_
   obtain ⟨y4,hy4⟩:∃ y4,y4=y3.drew:=⟨_,rfl⟩
   rw [← hy4]
   have HD4:=Zh (Zd hy4)
   have hS:True:=trivial
   have hT:=HTA.out y4 HD4.out
   clear hy4
   refine tk 0 96 hT hS ?_
   refine tk 2 98 hT hS ?_
   try simp only [xq]
   refine tk 3 99 hT hS ?_
   refine tk 4 100 hT hS ?_
   try simp only [xq]
   refine tk 5 101 hT hS ?_
   refine tk 6 102 hT hS ?_
   try simp only [xq]
   refine two_one 1 rfl (by kernel_rfl) ?_
   intro K hK
   go_simp
   refine (HSE.out y4 (HB3.out.trans (HD4.out.mono HB3.out.size))).mono ?_
   rintro e y5 ⟨rfl,hb5⟩
   have HD5:=Zh (HD4.out.trans (hb5.mono HD4.out.size))
   have hT1:=HTA.out y5 HD5.out
   refine hK.out _ _ hT1 (fun _ _ => hS) ?_
   clear hK K hT hb5
   have hT:=hT1
   clear hT1
   try simp only [xq]
   refine tk 7 103 hT hS ?_
   refine tk 8 104 hT hS ?_
   try simp only [xq]
   refine tk 9 105 hT hS ?_
   refine tk 10 106 hT hS ?_
   try simp only [xq]
   refine tk 11 107 hT hS ?_
   refine tk 12 108 hT hS ?_
   try simp only [xq]
   refine tk 13 109 hT hS ?_
   refine tk 14 110 hT hS ?_
   try simp only [xq]
   refine tk 15 111 hT hS ?_
   refine tk 17 113 hT hS ?_
   try simp only [xq]
   refine tk 18 114 hT hS ?_
   refine tk 19 115 hT hS ?_
   try simp only [xq]
   refine tk 20 116 hT hS ?_
   refine tk 21 117 hT hS ?_
   try simp only [xq]
   refine tk 22 118 hT hS ?_
   refine tk 23 119 hT hS ?_
   try simp only [xq]
   refine tk 24 120 hT hS ?_
   refine tk 25 121 hT hS ?_
   try simp only [xq]
   refine two_one 16 rfl (by kernel_rfl) ?_
   intro K hK
   go_simp
   refine (HSN.out y5).mono ?_
   rintro e y6 ⟨rfl,hb6⟩
   have HD6:=Zh (HD5.out.trans (hb6.mono HD5.out.size))
   have hT1:=HTA.out y6 HD6.out
   refine hK.out _ _ hT1 (fun _ _ => hS) ?_
   clear hK K hT hb6
   have hT:=hT1
   clear hT1
   try simp only [xq]
   refine tk 26 122 hT hS ?_
   refine tk 27 123 hT hS ?_
   try simp only [xq]
   refine two_done (by kernel_rfl) ?_ _
   clear hT hS
   go_wp2_with fail
   go_roundw
   case rel => exact ⟨i+1,by go_num,by omega,HB3.out.trans (HD6.out.mono HB3.out.size)⟩
   case measure => simp [intOf];omega
 obtain rfl:i=md:=by omega
 have hge:¬ (i:Int)<i:=by omega
 have hbw:Below w.heap.size w wr:=HBW.out.trans (HBI.out.mono HBW.out.size)
 have hl1:=HH.out.add hbw
 have hkw:=HKQ.out.below HBI.out
 have hrw:=HR.out.chg (S:=fun _ => False) (Chg.of_below HBI.out) fun _ _ e => e
 have htw:=OwnRow.below HTX.out HBI.out
 have hin:∀ k,HIn q (.slice lx m lc) vs k→Also X w wr k:=fun k hk => .inr (hk.elim (fun e => by subst e;exact ⟨by rw [HQ.out];exact Nat.le_refl _,hkw.lt⟩) fun e => hrw.lt k e)
 have htin:∀ k,(Value.slice tx m tc).ownBlock=some k→Also X w wr k:=fun k hk => .inr (OwnRow.lt htw k hk)
 have HFIN:=Zh (fun (W:World) (D:Dk) (hL:Live w0 (Also X w wr) W (.pointer (some ⟨a,0,none⟩)) D) (hK:Keeps (Also X w wr) wr W) => show ∃ N,NewIn w W N∧HS w0 (Plus X N) N W (.pointer (some ⟨a,0,none⟩)) D q ⟨st,false,l⟩∧Keeps X w W from by
  have hnew:∀ k,HIn q (.slice lx m lc) vs k→w.heap.size≤k∧k<W.heap.size:=fun k hk => (hk.elim (fun e => by subst e;exact ⟨by rw [HQ.out];exact Nat.le_refl _,Nat.lt_of_lt_of_le hkw.lt hK.size⟩) fun e => ⟨(hrw.lt k e).1,Nat.lt_of_lt_of_le (hrw.lt k e).2 hK.size⟩)
  exact ⟨HIn q (.slice lx m lc) vs,hnew,⟨hL.drop fun k hk => hk.elim .inl fun e => hin k e,⟨.slice lx m lc,vs,hkw.chg hK (fun e => e (hin _ (.inl rfl))),(hrw.chg hK fun k hk e => e (hin k (.inr hk))).base HH.out.size,fun k hk => hk⟩,fun k hk => .inr hk,fun k hk => ⟨Nat.le_trans HH.out.size (hnew k hk).1,(hnew k hk).2⟩⟩,(Keeps.below hbw).trans (hK.mono fun k hk => .inl hk)⟩)
 have HFAIL:=Zh (fun (W:World) (D:Dk) (hL:Live w0 (Also X w wr) W (.pointer (some ⟨a,0,none⟩)) D) (hK:Keeps (Also X w wr) wr W) => show Live w0 X W (.pointer (some ⟨a,0,none⟩)) D∧Keeps X w W from ⟨hL.drop fun k hk => .inl hk,(Keeps.below hbw).trans (hK.mono fun k hk => .inl hk)⟩)
 have HCL:=Zh (hclean_any (j:=q) hl1 (hkw.cell 0))
 obtain ⟨c,hc⟩:∃ c,c=cleanP d:=⟨_,rfl⟩
 have hoe:=openP_eq d l t
 rw [← hc] at HCL hoe
 obtain ⟨rc,dc⟩:=c
 simp only at HCL hoe
 have HOE:=Zh hoe
 have HKW:=Zh hkw
 have HRW:=Zh hrw
 have HTW:=Zh htw
 have HIN:=Zh hin
 have HTI:=Zh htin
 clear hbw hl1 hkw hrw htw hin htin hc hoe
 go_wp2_with fail
 refine HCL.out.mono ?_
 rintro e z1 ⟨rfl,hlz,hkz⟩
 have HLZ:=Zh hlz
 have HKZ:=Zh hkz
 clear hlz hkz HCL
 by_cases hrc:rc=0
 · subst hrc
   have hkq:=HKW.out.chg HKZ.out (fun e => e (HIN.out _ (.inl rfl)))
   have hrz:=HRW.out.chg HKZ.out fun k hk e => e (HIN.out k (.inr hk))
   have htz:=OwnRow.chg HTW.out HKZ.out fun k hk e => e (HTI.out k hk)
   have z3:=hkq.cell 3
   simp only [Zx] at z3
   by_cases hm0:m=0
   · have hl0:l=[]:=List.length_eq_zero_iff.1 (by rw [← HM.out];exact hm0)
     have HO2:=Zh (show openP d l t=(0,dc) from by rw [HOE.out,hl0];rfl)
     have HB0:=Zh (fun (W:World) (hW:Below z1.heap.size z1 W) => HFIN.out W dc (HLZ.out.keep hW) (HKZ.out.trans (Keeps.below hW)))
     clear hkq hrz htz hl0
     subst hm0
     have hwm0:IntKind.i64.wrap (-1)=-1:=by rw [IntKind.wrap_i64];omega
     have hgw:¬ (-1:Int)≥0:=by omega
     clear hwm hmx
     go_wp2_with fail
     refine wp_region_two (T:=fun _ => True) (S:=fun _ => True) (n:=99) (by kernel_rfl) ?_
     obtain ⟨y2,hy2⟩:∃ y2,y2=z1.drew:=⟨_,rfl⟩
     rw [← hy2]
     have HY2:=Zh (Zd hy2)
     have hS:True:=trivial
     have hT:True:=trivial
     clear hy2
     refine tk 0 136 hT hS ?_
     refine tk 1 137 hT hS ?_
     try simp only [xq]
     refine tk 2 138 hT hS ?_
     try simp only [xq]
     refine tkT 3 139 (v:=undef) rfl rfl (Or.inr ⟨by rfl,rfl⟩) hT hS ?_
     try simp only [xq]
     refine tkT 4 140 (v:=undef) rfl rfl (Or.inr ⟨by rfl,rfl⟩) hT hS ?_
     try simp only [xq]
     refine tkT 5 141 (v:=undef) rfl rfl (Or.inr ⟨by rfl,rfl⟩) hT hS ?_
     try simp only [xq]
     refine tkT 6 142 (v:=undef) rfl rfl (Or.inr ⟨by rfl,rfl⟩) hT hS ?_
     try simp only [xq]
     refine tkT 7 143 (v:=undef) rfl rfl (Or.inr ⟨by rfl,rfl⟩) hT hS ?_
     try simp only [xq]
     refine tkT 8 144 (v:=undef) rfl rfl (Or.inr ⟨by rfl,rfl⟩) hT hS ?_
     try simp only [xq]
     refine tkT 9 145 (v:=undef) rfl rfl (Or.inr ⟨by rfl,rfl⟩) hT hS ?_
     try simp only [xq]
     refine tkT 10 146 (v:=undef) rfl rfl (Or.inr ⟨by rfl,rfl⟩) hT hS ?_
     try simp only [xq]
     refine tkT 11 147 (v:=undef) rfl rfl (Or.inr ⟨by rfl,rfl⟩) hT hS ?_
     try simp only [xq]
     refine tkT 12 148 (v:=undef) rfl rfl (Or.inr ⟨by rfl,rfl⟩) hT hS ?_
     try simp only [xq]
     refine tkT 13 149 (v:=undef) rfl rfl (Or.inr ⟨by rfl,rfl⟩) hT hS ?_
     try simp only [xq]
     refine tkT 14 150 (v:=undef) rfl rfl (Or.inr ⟨by rfl,rfl⟩) hT hS ?_
     try simp only [xq]
     refine tkT 15 151 (v:=undef) rfl rfl (Or.inr ⟨by rfl,rfl⟩) hT hS ?_
     try simp only [xq]
     refine tkT 16 152 (v:=undef) rfl rfl (Or.inr ⟨by rfl,rfl⟩) hT hS ?_
     try simp only [xq]
     refine tk 17 153 hT hS ?_
     try simp only [xq]
     refine two_done (by kernel_rfl) ?_ _
     clear hT hS
     go_wp2_with fail
     refine bodyPost_ret (v:=.tuple #[.pointer (some ⟨q,0,none⟩),.int .i64 0]) (by simp [results,Tryz.results101,go_sem]) rfl ?_
     unfold OpenPost
     rw [HO2.out,← HSTD.out]
     exact .inl ⟨rfl,q,rfl,HB0.out y2 HY2.out⟩
   have hlne:l≠[]:=fun e => hm0 (by rw [HM.out,e];rfl)
   have hil:i<l.length:=by have:=HMD.out;have:=HM.out;omega
   have hiL:i=l.length-1:=by rw [HMD.out,HM.out]
   have hlast:l.getLast?=some l[i]:=by
    rw [List.getLast?_eq_getElem?,← hiL,List.getElem?_eq_getElem hil]
   obtain ⟨g,c9,sx,sc,ex,ec,hlv9,hc9,hsi,hi',e1,e2⟩:=hrz.seg i hil
   have hlx:lx=some ⟨g,0,none⟩:=by injection hlv9
   have hfl:=HLS.out.first_le HBN.out (List.getElem_mem hil)
   have htl:i<(l.map (fileT l t)).length:=by rw [List.length_map];exact hil
   obtain ⟨g2,c2,htx9,hct,_,hl2,hcell2⟩:=OwnRow.at_ strRow_len htz i htl
   have htx8:tx=some ⟨g2,0,none⟩:=by injection htx9
   have t0:=(hcell2 0 _ rfl).1
   rw [List.getElem_map,Nat.mul_one,Nat.add_zero] at t0
   have hmc9:m≤tc:=by
    rw [List.length_map,← HM.out] at hct
    injection htx9 with _ _ e
    omega
   obtain ⟨xs,hxs⟩:∃ xs,xs=l[i].spans:=⟨_,rfl⟩
   obtain ⟨FT,hFT⟩:∃ FT,FT=fileT l t l[i]:=⟨_,rfl⟩
   have htorn:tornOf l t l[i]=t:=by
    have h9:=tornOf_last (t:=t) hlne
    simp only [← hiL] at h9
    exact h9
   have hFd:FT.data.toList=sgT xs++t:=by rw [hFT,fileT_data,htorn,hxs]
   have hFz:FT.size=(sgT xs).length+t.length:=by
    have:FT.size=FT.data.toList.length:=by simp
    rw [this,hFd,List.length_append]
   have hFm:=HLS.out.size_of (List.getElem_mem hil)
   rw [← hFT] at hFm t0
   have hmay:∀ x∈xs,Sp.May x:=fun x hx => HLS.out.sgs.may _ (List.getElem_mem hil) x (by rw [← hxs];exact hx)
   have hsle:(sgT xs).length≤1000000000:=by omega
   obtain ⟨sn,hsn⟩:∃ sn,sn=xs.length:=⟨_,rfl⟩
   obtain ⟨fn,hfn⟩:∃ fn,fn=l[i].first:=⟨_,rfl⟩
   have k0:=hsi.c0
   have k1:=hsi.c1
   have k2:=hsi.c2
   have hend:=hsi.ends
   rw [← hxs,← hsn] at k1 k2 hend
   rw [← hfn] at k0 hfl
   have HSE:=Zh (fun (W:World) (hW:Below z1.heap.size z1 W) => segEnd_any (w:=W) (n:=fn) sx sn sc (OwnI.kept hend hW) hmay hsle)
   have HAN:=Zh (fun (W:World) (hW:Below z1.heap.size z1 W) => hanew_any (j:=q) (fn:=fn) (sx:=sx) (sc:=sc) (xs:=xs) (FT:=FT) (HLZ.out.keep hW) HE0.out ((hkq.below hW).cell 0) (HIN.out _ (.inl rfl)) (OwnI.kept hend hW) hsn hfl hmay hsle (by omega) (by rw [hFd,List.take_left]) (by unfold maxLen;omega))
   unfold segVal at HSE HAN
   have HO2:=Zh (show openP d l t=if t=[] then (0,dc) else anewP dc xs fn from by rw [HOE.out,hlast,hxs,hfn];rfl)
   obtain ⟨en,hen⟩:∃ en,en=(sgT xs).length:=⟨_,rfl⟩
   rw [← hen] at HSE hFz
   subst hlx
   subst htx8
   have HTW9:=Zh (fun (W:World) (hW:Below z1.heap.size z1 W) => show W.cell? ⟨q,3,none⟩=some (.slice (some ⟨g,0,none⟩) m lc)∧W.cell? ⟨g,i*3,none⟩=some (.int .i64 fn)∧W.cell? ⟨g,i*3+1,none⟩=some (.slice sx sn sc)∧W.cell? ⟨g,i*3+2,none⟩=some (.slice ex sn ec)∧W.cell? ⟨g2,i,none⟩=some (.string FT) from
    ⟨(hkq.below hW).cell 3,(hW.cell (p:=⟨g,i*3,none⟩) hsi.lt).trans k0,(hW.cell (p:=⟨g,i*3+1,none⟩) hsi.lt).trans k1,(hW.cell (p:=⟨g,i*3+2,none⟩) hsi.lt).trans k2,(hW.cell (p:=⟨g2,i,none⟩) hl2).trans t0⟩)
   have HTK:=Zh (fun (W:World) (hW:Keeps (Also X w wr) wr W) => show W.cell? ⟨q,3,none⟩=some (.slice (some ⟨g,0,none⟩) m lc)∧W.cell? ⟨g,i*3,none⟩=some (.int .i64 fn)∧W.cell? ⟨g,i*3+1,none⟩=some (.slice sx sn sc)∧W.cell? ⟨g,i*3+2,none⟩=some (.slice ex sn ec)∧W.cell? ⟨g2,i,none⟩=some (.string FT) from by
    have hq3:=(HKW.out.chg hW (fun e => e (HIN.out _ (.inl rfl)))).cell 3
    have hXg:Also X w wr g:=HIN.out g (.inr (.inl rfl))
    have hXt:Also X w wr g2:=HTI.out g2 rfl
    have gl:g<wr.heap.size:=(HRW.out.lt g (.inl rfl)).2
    have gt:g2<wr.heap.size:=(OwnRow.lt HTW.out g2 rfl).2
    have c0:=Chg.cell HKZ.out (p:=⟨g,i*3,none⟩) gl (fun e => e hXg)
    have c1:=Chg.cell HKZ.out (p:=⟨g,i*3+1,none⟩) gl (fun e => e hXg)
    have c2:=Chg.cell HKZ.out (p:=⟨g,i*3+2,none⟩) gl (fun e => e hXg)
    have c3:=Chg.cell HKZ.out (p:=⟨g2,i,none⟩) gt (fun e => e hXt)
    have d0:=Chg.cell hW (p:=⟨g,i*3,none⟩) gl (fun e => e hXg)
    have d1:=Chg.cell hW (p:=⟨g,i*3+1,none⟩) gl (fun e => e hXg)
    have d2:=Chg.cell hW (p:=⟨g,i*3+2,none⟩) gl (fun e => e hXg)
    have d3:=Chg.cell hW (p:=⟨g2,i,none⟩) gt (fun e => e hXt)
    exact ⟨hq3,d0.trans (c0.symm.trans k0),d1.trans (c1.symm.trans k1),d2.trans (c2.symm.trans k2),d3.trans (c3.symm.trans t0)⟩)
   have hwi:IntKind.i64.wrap ((m:Int)-1)=(i:Int):=by rw [IntKind.wrap_i64];have:=HMD.out;omega
   have him:(i:Int)<m:=by have:=HMD.out;omega
   have hg8:(i:Int)≥0:=by omega
   have hg7:(0:Int)≤i:=by omega
   clear hwm hmx hlne hil hiL hlast hlv9 hc9 hsi hi' e1 e2 hfl htl htx9 hct hl2 hcell2 t0 hxs hFT htorn hFd hFm hmay hsle hsn hfn k0 k1 k2 hend hen hkq hrz htz
   by_cases ht0:t=[]
   · have HO3:=Zh (show openP d l t=(0,dc) from by rw [HO2.out,if_pos ht0])
     have hlt7:decide ((en:Int)<FT.size)=false:=by rw [hFz,ht0];simp
     have hlt9:¬ (en:Int)<FT.size:=by rw [hFz,ht0];simp
     have hlt8:¬ en<FT.size:=by omega
     clear hFz
     go_wp2_with fail
     refine wp_region_two (T:=fun W => W.cell? ⟨q,3,none⟩=some (.slice (some ⟨g,0,none⟩) m lc)∧W.cell? ⟨g,i*3,none⟩=some (.int .i64 fn)∧W.cell? ⟨g,i*3+1,none⟩=some (.slice sx sn sc)∧W.cell? ⟨g,i*3+2,none⟩=some (.slice ex sn ec)∧W.cell? ⟨g2,i,none⟩=some (.string FT)) (S:=fun _ => True) (n:=99) (by kernel_rfl) ?_
     obtain ⟨y5,hy5⟩:∃ y5,y5=z1.drew:=⟨_,rfl⟩
     rw [← hy5]
     have HD5:=Zh (Zd hy5)
     have hS:True:=trivial
     have hT:=HTW9.out y5 HD5.out
     clear hy5 z3
     refine tk 0 136 hT hS ?_
     refine tk 1 137 hT hS ?_
     try simp only [xq]
     refine tk 2 138 hT hS ?_
     refine tk 3 139 hT hS ?_
     try simp only [xq]
     refine tk 4 140 hT hS ?_
     refine tk 5 141 hT hS ?_
     try simp only [xq]
     refine tk 6 142 hT hS ?_
     refine tk 7 143 hT hS ?_
     try simp only [xq]
     refine tk 8 144 hT hS ?_
     refine tk 9 145 hT hS ?_
     try simp only [xq]
     refine tk 11 147 hT hS ?_
     refine tk 12 148 hT hS ?_
     try simp only [xq]
     refine tk 13 149 hT hS ?_
     refine tk 14 150 hT hS ?_
     try simp only [xq]
     refine tk 15 151 hT hS ?_
     try simp only [xq]
     refine two_one 10 rfl (by kernel_rfl) ?_
     intro K hK
     go_simp
     refine (HSE.out y5 HD5.out).mono ?_
     rintro e y6 ⟨rfl,hb6⟩
     have HD6:=Zh (HD5.out.trans (hb6.mono HD5.out.size))
     have hT1:=HTW9.out y6 HD6.out
     refine hK.out _ _ hT1 (fun _ _ => hS) ?_
     clear hK K hT hb6
     have hT:=hT1
     clear hT1
     try simp only [xq]
     refine tk 16 152 hT hS ?_
     refine tk 17 153 hT hS ?_
     try simp only [xq]
     refine two_done (by kernel_rfl) ?_ _
     clear hT hS
     go_wp2_with fail
     refine bodyPost_ret (v:=.tuple #[.pointer (some ⟨q,0,none⟩),.int .i64 0]) (by simp [results,Tryz.results101,go_sem]) rfl ?_
     unfold OpenPost
     rw [HO3.out,← HSTD.out]
     exact .inl ⟨rfl,q,rfl,HFIN.out y6 dc (HLZ.out.keep HD6.out) (HKZ.out.trans (Keeps.below HD6.out))⟩
   have htl0:=List.length_pos_iff.2 ht0
   have HO3:=Zh (show openP d l t=anewP dc xs fn from by rw [HO2.out,if_neg ht0])
   have hlt7:decide ((en:Int)<FT.size)=true:=by rw [hFz];simp;omega
   have hlt9:(en:Int)<FT.size:=by omega
   have hlt8:en<FT.size:=by omega
   obtain ⟨z,hz9⟩:∃ z,z=anewP dc xs fn:=⟨_,rfl⟩
   rw [← hz9] at HAN HO3
   obtain ⟨ra,da⟩:=z
   simp only at HAN
   clear hFz htl0 hz9
   go_wp2_with fail
   refine wp_region_two (T:=fun W => W.cell? ⟨q,3,none⟩=some (.slice (some ⟨g,0,none⟩) m lc)∧W.cell? ⟨g,i*3,none⟩=some (.int .i64 fn)∧W.cell? ⟨g,i*3+1,none⟩=some (.slice sx sn sc)∧W.cell? ⟨g,i*3+2,none⟩=some (.slice ex sn ec)∧W.cell? ⟨g2,i,none⟩=some (.string FT)) (S:=fun _ => True) (n:=99) (by kernel_rfl) ?_
   obtain ⟨y5,hy5⟩:∃ y5,y5=z1.drew:=⟨_,rfl⟩
   rw [← hy5]
   have HD5:=Zh (Zd hy5)
   have hS:True:=trivial
   have hT:=HTW9.out y5 HD5.out
   clear hy5 z3
   refine tk 0 136 hT hS ?_
   refine tk 1 137 hT hS ?_
   try simp only [xq]
   refine tk 2 138 hT hS ?_
   refine tk 3 139 hT hS ?_
   try simp only [xq]
   refine tk 4 140 hT hS ?_
   refine tk 5 141 hT hS ?_
   try simp only [xq]
   refine tk 6 142 hT hS ?_
   refine tk 7 143 hT hS ?_
   try simp only [xq]
   refine tk 8 144 hT hS ?_
   refine tk 9 145 hT hS ?_
   try simp only [xq]
   refine tk 11 147 hT hS ?_
   refine tk 12 148 hT hS ?_
   try simp only [xq]
   refine tk 13 149 hT hS ?_
   refine tk 14 150 hT hS ?_
   try simp only [xq]
   refine tk 15 151 hT hS ?_
   try simp only [xq]
   refine two_one 10 rfl (by kernel_rfl) ?_
   intro K hK
   go_simp
   refine (HSE.out y5 HD5.out).mono ?_
   rintro e y6 ⟨rfl,hb6⟩
   have HD6:=Zh (HD5.out.trans (hb6.mono HD5.out.size))
   have hT1:=HTW9.out y6 HD6.out
   refine hK.out _ _ hT1 (fun _ _ => hS) ?_
   clear hK K hT hb6
   have hT:=hT1
   clear hT1
   try simp only [xq]
   refine tk 16 152 hT hS ?_
   refine tk 17 153 hT hS ?_
   try simp only [xq]
   refine two_done (by kernel_rfl) ?_ _
   clear hT hS
   go_wp2_with fail
   refine wp_region_two (T:=fun W => W.cell? ⟨q,3,none⟩=some (.slice (some ⟨g,0,none⟩) m lc)∧W.cell? ⟨g,i*3,none⟩=some (.int .i64 fn)∧W.cell? ⟨g,i*3+1,none⟩=some (.slice sx sn sc)∧W.cell? ⟨g,i*3+2,none⟩=some (.slice ex sn ec)∧W.cell? ⟨g2,i,none⟩=some (.string FT)) (S:=fun _ => True) (n:=99) (by kernel_rfl) ?_
   obtain ⟨y7,hy7⟩:∃ y7,y7=y6.drew:=⟨_,rfl⟩
   rw [← hy7]
   have HD7:=Zh (show Below z1.heap.size z1 y7 by rw [hy7];exact HD6.out.drew)
   have hS:True:=trivial
   have hT:=HTW9.out y7 HD7.out
   clear hy7
   refine tk 0 154 hT hS ?_
   refine tk 1 155 hT hS ?_
   try simp only [xq]
   refine tk 2 156 hT hS ?_
   refine tk 3 157 hT hS ?_
   try simp only [xq]
   refine tk 4 158 hT hS ?_
   refine tk 5 159 hT hS ?_
   try simp only [xq]
   refine tk 6 160 hT hS ?_
   refine tk 7 161 hT hS ?_
   try simp only [xq]
   refine tk 8 162 hT hS ?_
   refine tk 9 163 hT hS ?_
   try simp only [xq]
   refine tk 10 164 hT hS ?_
   refine tk 11 165 hT hS ?_
   try simp only [xq]
   refine two_one 12 rfl (by kernel_rfl) ?_
   intro K hK
   go_simp
   refine (HAN.out y7 HD7.out).mono ?_
   rintro e y8 ⟨rfl,hl8,hk8⟩
   have HL8:=Zh hl8
   have HK8:=Zh ((HKZ.out.trans (Keeps.below HD7.out)).trans hk8)
   have hT1:=HTK.out y8 HK8.out
   refine hK.out _ _ hT1 (fun _ _ => hS) ?_
   clear hK K hT hl8 hk8
   have hT:=hT1
   clear hT1
   try simp only [xq]
   refine tk 13 18 hT hS ?_
   try simp only [xq]
   refine two_done (by kernel_rfl) ?_ _
   clear hT hS
   by_cases hra:ra=0
   · subst hra
     go_wp2_with fail
     refine bodyPost_ret (v:=.tuple #[.pointer (some ⟨q,0,none⟩),.int .i64 0]) (by simp [results,Tryz.results101,go_sem]) rfl ?_
     unfold OpenPost
     rw [HO3.out,← HSTD.out]
     exact .inl ⟨rfl,q,rfl,HFIN.out y8 da HL8.out HK8.out⟩
   have t1:(ra == 0)=false:=beq_eq_false_iff_ne.2 hra
   go_wp2_with fail
   refine bodyPost_ret (v:=.tuple #[.pointer none,.int .i64 ra]) (by simp [results,Tryz.results101,go_sem]) rfl ?_
   unfold OpenPost
   rw [HO3.out]
   exact .inr ⟨hra,rfl,HFAIL.out y8 da HL8.out HK8.out⟩
 have t1:(rc == 0)=false:=beq_eq_false_iff_ne.2 hrc
 have HO2:=Zh (show openP d l t=(rc,dc) from by rw [HOE.out,if_pos hrc])
 go_wp2_with fail
 refine bodyPost_ret (v:=.tuple #[.pointer none,.int .i64 rc]) (by simp [results,Tryz.results101,go_sem]) rfl ?_
 unfold OpenPost
 rw [HO2.out]
 exact .inr ⟨hrc,rfl,HFAIL.out z1 dc HLZ.out HKZ.out⟩
end
end Go.Proofs.YtdacanghbepjpaaGreatDoor
