/- A host sends, and takes mail: walked. A host sends, takes mail, ticks, tells its numbers: walked. -/
import Derived.Test.YtdacanghbepjpaaGreatDoorG10
import Derived.Test.YtdacanghbepjpaaGreatDoorG9
set_option linter.unusedSimpArgs false
set_option linter.unusedVariables false
set_option maxRecDepth 100000
namespace Go.Proofs.YtdacanghbepjpaaGreatDoor
open Go.RowKit Go.Maps
open Dsk
structure Ml where
 frm:Int
 to:Int
 data:ByteArray
def mlRow (m:Ml):List Value:=[.int .i64 m.frm,.int .i64 m.to,.string m.data]
def mlV (m:Ml):Value:=.agg (mlRow m).toArray
theorem mlRow_len (m:Ml):(mlRow m).length=3:=rfl
theorem mlRow_one (m:Ml):∀ u∈mlRow m,u.oneCell'=true:=fun u hu => by
 simp only [mlRow,List.mem_cons,List.not_mem_nil,or_false] at hu
 rcases hu with rfl | rfl | rfl <;> rfl
theorem under_mails:Tryz.prog.underlying 96=some (.slice 100):=by kernel_rfl
theorem Tryz.info_mail:(Tryz.prog.info? 100).map (fun i => (i.zero,i.size,i.bytes))=some (some (.agg #[.int .i64 0,.int .i64 0,.string ⟨#[]⟩]),3,32):=by kernel_rfl
abbrev OwnMl (w:World) (B:Nat) (v:Value) (l:List Ml):Prop:=OwnRow mlRow 3 100 w B v l
theorem ownRow_mono {α:Type} {row:α→List Value} {z:Nat} {e:TypeId} {w:World} {B B':Nat} {v:Value} {l:List α} (h:OwnRow row z e w B v l) (hB:B'≤B):OwnRow row z e w B' v l:=by
 obtain ⟨h1,h2⟩:=h
 refine ⟨h1,?_⟩
 rcases h2 with h2 | ⟨g,cap,cur,e1,e2,h3⟩
 · exact .inl h2
 exact .inr ⟨g,cap,cur,e1,Nat.le_trans hB e2,h3⟩
def KU (K:Nat→Prop) (u:Value):Nat→Prop:=fun k => K k∨u.ownBlock=some k
def OffB (K:Nat→Prop) (b:Nat):Nat→Prop:=fun k => K k∧k≠b
noncomputable def sentO (o:Hs):List Ml:=if (stepC o.now o.d o.h o.x).1.1=noB then [] else [⟨o.id,-1,(stepC o.now o.d o.h o.x).1.1⟩]
noncomputable def stepO (o:Hs):Hs:={ o with d:=(stepC o.now o.d o.h o.x).2.2,x:=(stepC o.now o.d o.h o.x).2.1 }
section
variable {w0 w w':World} {P S K:Nat→Prop} {jh bd j jx b1 b2 s:Nat} {o:Hs} {t t1 t2:TypeId}
theorem HE.own {w1 w2:World} {u:Value} {B:Nat} {ms:List Ml} (n:HE w0 w K jh bd j jx o) (hb:Below w.heap.size w w1) (ho:OwnMl w1 B u ms) (hB:w.heap.size≤B) (hlt:∀ k,u.ownBlock=some k→k<w1.heap.size) (hc:Chg (fun k => k=b2) w1 w2) (h2:K b2) (h2w:w0.heap.size≤b2) (h2l:b2<w.heap.size) :
  HE w0 w2 (KU K u) jh bd j jx o∧OwnMl w2 B u ms:=by
 have hu:∀ k,u.ownBlock=some k→B≤k:=fun k hk => (OwnRow.lt ho k hk).1
 have n1:HE w0 w1 (KU K u) jh bd j jx o:=(n.add hb).drop fun k e => e.elim .inl fun e => .inr ⟨Nat.le_trans hB (hu k e),hlt k e⟩
 refine ⟨n1.row hc fun k e _ => ⟨.inl (e ▸ h2),e ▸ h2w⟩,OwnRow.chg ho hc fun k hk e => ?_⟩
 have:=hu k hk
 omega
theorem ho_step1 (n:HE w0 w K jh bd j jx o) (hu:o.up=true) (he:LEnv w0) (f:Few o.d o.h s o.x) (hnow:NowB o.now o.x.sent) (k1:Bx w K b1 t1 #[.pointer (some ⟨jh,0,none⟩)]) (k2:Bx w K b2 t2 #[.slice none 0 0]) (h2w:w0.heap.size≤b2) (h12:b1≠b2) :
  Calls Tryz.prog 113 #[.pointer (some ⟨b1,0,none⟩),.pointer (some ⟨b2,0,none⟩)] w fun e w2 => e=.returned (.int .i64 (stepC o.now o.d o.h o.x).1.2)∧∃ u,HE w0 w2 (KU K u) jh bd j jx (stepO o)∧OwnMl w2 w.heap.size u (sentO o)∧w2.cell? ⟨b2,0,none⟩=some u∧Keeps (OffB K b2) w w2:=by
 unfold stepO sentO
 obtain ⟨w1,hw1⟩:∃ y,y=w.drew:=⟨_,rfl⟩
 have HB1:=Zh (Zd hw1)
 have HN:=Zh (n.below HB1.out)
 have HC:=Zh (HN.out.step hu he f o.now hnow)
 have K1:=Zh (k1.below HB1.out)
 have K2:=Zh (k2.below HB1.out)
 have HL2:=Zh k2.blk.lt
 have HW2:=Zh h2w
 have HB12:=Zh h12
 have hcel:∀ (W:World) (o':Hs),HE w0 W K jh bd j jx o'→o'.up=true→W.cell? ⟨jh,5,none⟩=some (.pointer (some ⟨jx,0,none⟩)):=fun W o' h e => by
  have:=h.cells.2.2.2.2.2
  rw [e] at this
  exact this
 have hT:w1.cell? ⟨b1,0,none⟩=some (.pointer (some ⟨jh,0,none⟩))∧w1.cell? ⟨jh,5,none⟩=some (.pointer (some ⟨jx,0,none⟩))∧w1.cell? ⟨jh,1,none⟩=some (.int .i64 o.now):=⟨K1.out.blk.cell 0,hcel w1 _ HN.out hu,HN.out.cells.2.1⟩
 have hS:True:=trivial
 obtain ⟨R,hR⟩:∃ R,R=stepC o.now o.d o.h o.x:=⟨_,rfl⟩
 rw [← hR] at HC ⊢
 obtain ⟨ms,hms⟩:∃ ms:List Ml,ms=(if R.1.1=noB then [] else [⟨o.id,-1,R.1.1⟩]):=⟨_,rfl⟩
 rw [← hms]
 have HMS:=Zh hms
 clear hms
 have HUU:=Zh hu
 clear n hR k1 k2 h2w h12 hu
 go_enter Tryz.func113,Tryz.ntmps113
 go_wp2_with fail
 refine wp_region_two (T:=fun W => W.cell? ⟨b1,0,none⟩=some (.pointer (some ⟨jh,0,none⟩))∧W.cell? ⟨jh,5,none⟩=some (.pointer (some ⟨jx,0,none⟩))∧W.cell? ⟨jh,1,none⟩=some (.int .i64 o.now)) (S:=fun _ => True) (n:=99) (by kernel_rfl) ?_
 rw [← hw1]
 clear hw1
 refine tk 0 6 hT hS ?_
 refine tk 1 7 hT hS ?_
 try simp only [xq]
 refine tk 2 8 hT hS ?_
 refine tk 3 9 hT hS ?_
 try simp only [xq]
 refine tk 4 10 hT hS ?_
 refine tk 5 11 hT hS ?_
 try simp only [xq]
 refine tk 6 12 hT hS ?_
 refine tk 7 13 hT hS ?_
 try simp only [xq]
 refine two_one 8 rfl (by kernel_rfl) ?_
 intro K0 hK0
 go_simp
 refine HC.out.mono ?_
 rintro e w2 ⟨rfl,hn2,hk2⟩
 have HN2:=Zh hn2
 have HK2:=Zh ((Keeps.below HB1.out).trans hk2)
 have hT3:w2.cell? ⟨b1,0,none⟩=some (.pointer (some ⟨jh,0,none⟩))∧w2.cell? ⟨jh,5,none⟩=some (.pointer (some ⟨jx,0,none⟩))∧w2.cell? ⟨jh,1,none⟩=some (.int .i64 o.now):=⟨(K1.out.keeps hk2).blk.cell 0,hcel w2 _ hn2 HUU.out,hn2.cells.2.1⟩
 have KB:=Zh (K2.out.keeps hk2)
 have KA:=Zh (K1.out.keeps hk2)
 refine hK0.out _ _ hT3 (fun _ _ => hS) ?_
 clear hK0 K0
 try simp only [xq]
 clear hT hk2 hn2 HC
 have hT:=hT3
 clear hT3
 refine tk 9 5 hT hS ?_
 refine tk 10 15 hT hS ?_
 try simp only [xq]
 refine tk 11 16 hT hS ?_
 refine tk 12 3 hT hS ?_
 try simp only [xq]
 refine tk 13 4 hT hS ?_
 try simp only [xq]
 refine two_done (by kernel_rfl) ?_ _
 clear hT
 obtain ⟨⟨bt,r⟩,x2,d2⟩:=R
 simp only at HN2 HK2 KB KA HMS ⊢
 by_cases hb:bt=noB
 case pos =>
  have HH:=Zh (show ∃ u,HE w0 w2 (KU K u) jh bd j jx { o with d:=d2,x:=x2 }∧OwnMl w2 w.heap.size u ms∧w2.cell? ⟨b2,0,none⟩=some u∧Keeps (OffB K b2) w w2 from by
   rw [HMS.out,if_pos hb]
   exact ⟨.slice none 0 0,HN2.out.drop (fun k (e:KU K (.slice none 0 0) k) => Or.elim e id fun e => (by cases e)),OwnRow.nil _ _,KB.out.blk.cell 0,HK2.out.mono fun k e => e.1⟩)
  subst hb
  have hno:=noB_is
  clear HMS
  go_wp2_with fail
  go_ret
  exact ⟨rfl,HH.out⟩
 case neg =>
 have hms2:ms=[⟨o.id,-1,bt⟩]:=by rw [HMS.out,if_neg hb]
 have HMS2:=Zh hms2
 clear hms2
 have hem:bt.toList.isEmpty=false:=by
  cases hq:bt.toList.isEmpty with
  | true => exact absurd (noB_of hq) hb
  | false => rfl
 obtain ⟨x0,hx0⟩:∃ y,y=w2.drew:=⟨_,rfl⟩
 have HBX:=Zh (Zd hx0)
 obtain ⟨hid',hhid⟩:∃ i,i=o.id:=⟨_,rfl⟩
 have HTT:=Zh (fun (W:World) (hW:Below w2.heap.size w2 W) => show W.cell? ⟨b1,0,none⟩=some (.pointer (some ⟨jh,0,none⟩))∧W.cell? ⟨jh,0,none⟩=some (.int .i64 hid') from ⟨(KA.out.below hW).blk.cell 0,by rw [hhid];exact (HN2.out.below hW).cells.1⟩)
 have HSS:=Zh (fun (W:World) (hW:Below w2.heap.size w2 W) => show W.cell? ⟨b2,0,none⟩=some (.slice none 0 0) from (KB.out.below hW).blk.cell 0)
 have hT:=HTT.out x0 HBX.out
 have hS:=HSS.out x0 HBX.out
 have HHI:=Zh hhid
 clear hb hhid
 go_wp2_with fail
 refine wp_region_two (T:=fun W => W.cell? ⟨b1,0,none⟩=some (.pointer (some ⟨jh,0,none⟩))∧W.cell? ⟨jh,0,none⟩=some (.int .i64 hid')) (S:=fun W => W.cell? ⟨b2,0,none⟩=some (.slice none 0 0)) (n:=9) (by kernel_rfl) ?_
 rw [← hx0]
 clear hx0
 refine two_take 0 (some 19) (v:=?_) rfl rfl (by kernel_rfl) (by kernel_rfl) (by kernel_rfl) (by kernel_rfl) (by decide) (by kernel_rfl) (fun _ _ _ h => h) (Or.inl ⟨by rfl,?hy0⟩) hT hS ?_
 case hy0 => (intro w' hS';(try unfold S8 at hS');(try unfold T8 at hS');go_simp;(try with_reducible rfl))
 try simp only [xq]
 refine tk 1 20 hT hS ?_
 refine tk 2 21 hT hS ?_
 try simp only [xq]
 refine tk 3 22 hT hS ?_
 refine tk 4 23 hT hS ?_
 try simp only [xq]
 refine tk 5 24 hT hS ?_
 refine tk 6 25 hT hS ?_
 try simp only [xq]
 refine two_one 7 rfl (by kernel_rfl) ?_
 intro K0 hK0
 go_simp
 obtain ⟨z0,hz0⟩:∃ y,y=x0.alloc (.cells #[.int .i64 hid',.int .i64 (-1),.string bt] 100 (0,0)):=⟨_,rfl⟩
 rw [← hz0]
 have hbz0:=Zb hz0
 have HA:=Zh (show Blk z0 x0.heap.size 100 #[.int .i64 hid',.int .i64 (-1),.string bt] by rw [hz0];exact Blk.alloc_new x0 _ _)
 have HZ0:=Zh (HBX.out.trans (hbz0.mono HBX.out.size))
 have hT1:=HTT.out z0 HZ0.out
 have hS1:=HSS.out z0 HZ0.out
 refine hK0.out _ _ hT1 (fun _ _ => hS1) ?_
 clear hz0 hbz0 hK0 K0 hT hS
 have hT:=hT1
 have hS:=hS1
 clear hT1 hS1
 try simp only [xq]
 refine two_one 8 rfl (by kernel_rfl) ?_
 intro K0 hK0
 refine step_append_rows rfl (.tmp 19) (.tmp 26) (by rfl) mlRow_len (by omega) under_mails Tryz.info_mail rfl (by omega) (OwnRow.nil (row:=mlRow) (z:=3) (e:=100) z0 w2.heap.size) (by rfl) (m:=[⟨hid',-1,bt⟩]) (by rfl) (RdRow.one HA.out rfl) (fun a _ => mlRow_one a) (by simp) (by simp) HZ0.out.size ?_
 intro u1 z1 hown hgr hb
 obtain ⟨ux,uc,hux⟩:=OwnRow.shape hown
 simp only [List.nil_append,List.length_singleton] at hux
 subst hux
 have hb1:Below z0.heap.size z0 z1:=(chg_of_grown hgr).below (Nat.le_refl _) (fun k _ e => by cases e)
 have HZ1:=Zh (HZ0.out.trans (hb1.mono HZ0.out.size))
 have HU1:=Zh (show OwnMl z1 w2.heap.size (.slice ux 1 uc) [⟨hid',-1,bt⟩] from hown)
 have hT1:=HTT.out z1 HZ1.out
 have hS1:=HSS.out z1 HZ1.out
 refine hK0.out _ _ hT1 (fun _ _ => hS1) ?_
 clear hown hgr hb hb1 hK0 K0 hT hS
 have hT:=hT1
 have hS:=hS1
 clear hT1 hS1
 try simp only [xq]
 have f2:=(KB.out.below HZ1.out).blk.free 0
 refine two_one 9 rfl (by kernel_rfl) ?_
 intro K0 hK0
 go_simp
 obtain ⟨z2,hz2⟩:∃ y,y=z1.setCell ⟨b2,0,none⟩ (.slice ux 1 uc):=⟨_,rfl⟩
 rw [← hz2]
 have hc2:Chg (fun k => k=b2) z1 z2:=by rw [hz2];exact (Chg.refl (fun k => k=b2) z1).setCell (p:=⟨b2,0,none⟩) (fun _ => rfl) _
 have hk2:=(KB.out.below HZ1.out).blk.set 0 (.slice ux 1 uc)
 rw [← hz2] at hk2
 obtain ⟨g1,g2⟩:=HN2.out.own HZ1.out HU1.out (Nat.le_refl _) (fun k hk => (OwnRow.lt HU1.out k hk).2) hc2 KB.out.kept HW2.out KB.out.blk.lt
 have HH:=Zh (show ∃ u,HE w0 z2 (KU K u) jh bd j jx { o with d:=d2,x:=x2 }∧OwnMl z2 w.heap.size u ms∧z2.cell? ⟨b2,0,none⟩=some u∧Keeps (OffB K b2) w z2 from by
  rw [HMS2.out]
  have g3:=ownRow_mono g2 HK2.out.size
  rw [HHI.out] at g3
  exact ⟨_,g1,g3,hk2.cell 0,(HK2.out.mono fun k e => e.1).trans ((Keeps.below HZ1.out).trans (Chg.mono hc2 fun k _ e e2 => e2.2 e))⟩)
 have hT1:z2.cell? ⟨b1,0,none⟩=some (.pointer (some ⟨jh,0,none⟩))∧z2.cell? ⟨jh,0,none⟩=some (.int .i64 hid'):=⟨((KA.out.below HZ1.out).blk.chg hc2 HB12.out).cell 0,by rw [HHI.out];exact g1.cells.1⟩
 refine hK0.out _ _ hT1 (fun _ e => absurd rfl e) ?_
 clear hK0 K0 hT hS g1 g2 hk2 hc2 hz2 f2
 try simp only [xq]
 refine two_done (by kernel_rfl) ?_ _
 clear hT1
 go_wp2_with fail
 go_ret
 exact ⟨rfl,HH.out⟩
end
end Go.Proofs.YtdacanghbepjpaaGreatDoor
namespace Go.Proofs.YtdacanghbepjpaaGreatDoor
open Go.RowKit Go.Maps
open Dsk
noncomputable def stepR (o:Hs):(List Ml×Int)×Hs:=if o.up=true then ((sentO o,(stepC o.now o.d o.h o.x).1.2),(stepO o).settle) else (([],250),o)
noncomputable def takeO (m:Ml) (o:Hs):Int×Hs:=if m.to=o.id then ((takeC m.data.data.toList o.d o.x).1.2,{ o with d:=(takeC m.data.data.toList o.d o.x).2.2,x:=(takeC m.data.data.toList o.d o.x).2.1 }) else (2,o)
theorem enters_hstep:Go.Proofs.Enters Tryz.prog 113:=enters_of Tryz.func113 (by kernel_rfl) rfl
section
variable {w0 w w':World} {P S K:Nat→Prop} {jh bd j jx b1 b2 s:Nat} {o:Hs} {t t1 t2:TypeId}
theorem ho_step (n:HE w0 w K jh bd j jx o) (he:LEnv w0) (ok:o.up=true→Few o.d o.h s o.x∧NowB o.now o.x.sent) (hw0:w0.heap.size≤w.heap.size) :
  Calls Tryz.prog 61 #[.pointer (some ⟨jh,0,none⟩)] w fun e w' => ∃ u,e=.returned (.tuple #[u,.int .i64 (stepR o).1.2])∧OwnMl w' w.heap.size u (stepR o).1.1∧HE w0 w' (KU K u) jh bd j jx (stepR o).2∧Keeps K w w':=by
 obtain ⟨w1,hw1⟩:∃ w1,w1=((w.alloc (.cells #[.pointer (some ⟨jh,0,none⟩)] 89 (0,0))).alloc (.cells #[.slice none 0 0] 96 (0,0))):=⟨_,rfl⟩
 have hb1:Below w.heap.size w w1:=by rw [hw1];exact ((Below.refl _ _).alloc (by simp) _).alloc (by simp) _
 have hz1:w1.heap.size=w.heap.size+1+1:=by rw [hw1];simp
 have hp0:Blk w1 w.heap.size 89 #[.pointer (some ⟨jh,0,none⟩)]:=by
  have:=Blk.alloc_new w 89 #[.pointer (some ⟨jh,0,none⟩)]
  rw [hw1]
  exact (by simpa using this:Blk (w.alloc (.cells #[.pointer (some ⟨jh,0,none⟩)] 89 (0,0))) w.heap.size 89 #[.pointer (some ⟨jh,0,none⟩)]).below ((Below.refl _ _).alloc (by simp) _)
 have hp1:Blk w1 (w.heap.size+1) 96 #[.slice none 0 0]:=by
  have:=Blk.alloc_new (w.alloc (.cells #[.pointer (some ⟨jh,0,none⟩)] 89 (0,0))) 96 #[.slice none 0 0]
  rw [hw1]
  exact (by simpa using this:Blk ((w.alloc (.cells #[.pointer (some ⟨jh,0,none⟩)] 89 (0,0))).alloc (.cells #[.slice none 0 0] 96 (0,0))) (w.heap.size+1) 96 #[.slice none 0 0])
 have n1:=n.add hb1
 unfold stepR
 by_cases hu:o.up=true
 case pos =>
  rw [if_pos hu]
  have hd:=ho_does n1 hu enters_hstep (T:=fun r o2 K2 w2 => r=(stepC o.now o.d o.h o.x).1.2∧o2=stepO o∧∃ u,K2=KU (Also K w w1) u∧OwnMl w2 w1.heap.size u (sentO o)∧w2.cell? ⟨w.heap.size+1,0,none⟩=some u∧Keeps (OffB (Also K w w1) (w.heap.size+1)) w1 w2) (by
   refine (ho_step1 n1 hu he (ok hu).1 (ok hu).2 ⟨hp0,.inr ⟨by omega,hp0.lt⟩⟩ ⟨hp1,.inr ⟨by omega,hp1.lt⟩⟩ (by omega) (by omega)).mono ?_
   rintro e w2 ⟨rfl,u,h1,h2,h3,h4⟩
   exact ⟨_,_,_,rfl,h1,rfl,rfl,u,rfl,h2,h3,h4⟩)
  have HD:=Zh hd
  have HB1:=Zh hb1
  have HW1:=Zh hw1
  have HKL:=Zh (show ∀ k,K k→k<w.heap.size from fun k e => by obtain ⟨P,_,_,_,_,hK⟩:=n;exact (hK k e).2.1)
  have HA2:=Zh (show Also K w w1 (w.heap.size+1) from .inr ⟨by omega,by omega⟩)
  have HZ:=Zh (show w.heap.size≤w1.heap.size by omega)
  clear hd hb1 hw1 n n1 hp0 hp1 hu hz1 ok hw0
  go_enter Tryz.func61,Tryz.ntmps61
  go_wp2_with fail
  rw [← HW1.out]
  refine HD.out.mono ?_
  rintro e w3 ⟨r,o2,K2,w2,rfl,⟨rfl,rfl,u,rfl,h2,h3,h4⟩,hn3,hk3⟩
  have hK2:KU (Also K w w1) u (w.heap.size+1):=.inl HA2.out
  have c3:w3.cell? ⟨w.heap.size+1,0,none⟩=some u:=(hk3.cell (p:=⟨w.heap.size+1,0,none⟩) (World.block_lt_of_cell? w2 _ h3) fun e => e hK2).trans h3
  have HH:=Zh (show OwnMl w3 w.heap.size u (sentO o)∧HE w0 w3 (KU K u) jh bd j jx (stepO o).settle∧Keeps K w w3 from
   ⟨ownRow_mono (OwnRow.chg h2 hk3 fun k hk e => e (.inr hk)) HZ.out,hn3.drop fun k e => e.elim (fun e => .inl (.inl e)) .inr,
    (Keeps.below HB1.out).trans ((h4.mono fun k e => ⟨.inl e,by have:=HKL.out k e;omega⟩).trans (Chg.mono hk3 fun k _ e e2 => e (.inl (.inl e2))))⟩)
  clear h2 h3 h4 hn3 hk3 HD hK2
  go_wp2_with fail
  refine bodyPost_ret (v:=.tuple #[u,.int .i64 (stepC o.now o.d o.h o.x).1.2]) (by simp [results,Tryz.results61,go_sem]) rfl ?_
  exact ⟨u,rfl,HH.out⟩
 case neg =>
 rw [if_neg hu]
 rw [Bool.not_eq_true] at hu
 have HD:=Zh (fun v => ho_does_no n1 hu v)
 have p1:=hp1.cell 0
 simp only [Zx] at p1
 have HH:=Zh (show OwnMl w1 w.heap.size (.slice none 0 0) []∧HE w0 w1 (KU K (.slice none 0 0)) jh bd j jx o∧Keeps K w w1 from
  ⟨OwnRow.nil _ _,(n.below hb1).drop fun k e => e.elim id fun e => (by cases e),Keeps.below hb1⟩)
 have HW1:=Zh hw1
 clear hb1 hw1 n n1 hp0 hp1 hu hz1 ok hw0
 go_enter Tryz.func61,Tryz.ntmps61
 go_wp2_with fail
 rw [← HW1.out]
 refine (HD.out _).mono ?_
 rintro e w3 ⟨rfl,rfl⟩
 clear HD
 go_wp2_with fail
 refine bodyPost_ret (v:=.tuple #[.slice none 0 0,.int .i64 250]) (by simp [results,Tryz.results61,go_sem]) rfl ?_
 exact ⟨_,rfl,HH.out⟩
theorem ho_take1 (n:HE w0 w K jh bd j jx o) (hu:o.up=true) (f:Few o.d o.h s o.x) (m:Ml) (hm:m.data.size≤maxLen) (k1:Bx w K b1 t1 (mlRow m).toArray) (k2:Bx w K b2 t2 #[.pointer (some ⟨jh,0,none⟩)]) :
  Calls Tryz.prog 118 #[.pointer (some ⟨b1,0,none⟩),.pointer (some ⟨b2,0,none⟩)] w fun e w2 => e=.returned (.int .i64 (takeO m o).1)∧HE w0 w2 K jh bd j jx (takeO m o).2∧Keeps K w w2:=by
 obtain ⟨w1,hw1⟩:∃ y,y=w.drew:=⟨_,rfl⟩
 have HB1:=Zh (Zd hw1)
 obtain ⟨mf,mt,md⟩:=m
 have HN:=Zh n
 have K1:=Zh k1
 have K2:=Zh k2
 have hT:w1.cell? ⟨b2,0,none⟩=some (.pointer (some ⟨jh,0,none⟩))∧w1.cell? ⟨jh,0,none⟩=some (.int .i64 o.id)∧w1.cell? ⟨b1,1,none⟩=some (.int .i64 mt):=⟨(k2.below HB1.out).blk.cell 0,(n.below HB1.out).cells.1,(k1.below HB1.out).blk.cell 1⟩
 have hS:True:=trivial
 unfold takeO
 simp only at hm ⊢
 clear n k1 k2
 by_cases hq:mt=o.id
 case neg =>
  rw [if_neg hq]
  have hqb:(mt != o.id)=true:=by rw [bne_iff_ne];exact hq
  have HH:=Zh (And.intro (HN.out.below HB1.out) (Keeps.below (X:=K) HB1.out))
  clear hq
  go_enter Tryz.func118,Tryz.ntmps118
  go_wp2_with fail
  refine wp_region_two (T:=fun W => W.cell? ⟨b2,0,none⟩=some (.pointer (some ⟨jh,0,none⟩))∧W.cell? ⟨jh,0,none⟩=some (.int .i64 o.id)∧W.cell? ⟨b1,1,none⟩=some (.int .i64 mt)) (S:=fun _ => True) (n:=99) (by kernel_rfl) ?_
  rw [← hw1]
  clear hw1
  refine tk 0 5 hT hS ?_
  refine tk 1 6 hT hS ?_
  try simp only [xq]
  refine tk 2 7 hT hS ?_
  refine tk 3 8 hT hS ?_
  try simp only [xq]
  refine tk 4 9 hT hS ?_
  refine tk 5 10 hT hS ?_
  try simp only [xq]
  refine tk 6 11 hT hS ?_
  try simp only [xq]
  refine two_done (by kernel_rfl) ?_ _
  clear hT
  go_wp2_with fail
  go_ret
  exact ⟨rfl,HH.out⟩
 case pos =>
 rw [if_pos hq]
 have hTT:=hT
 clear hT
 have hqb:(mt != o.id)=false:=by rw [hq];exact bne_self_eq_false o.id
 obtain ⟨x1,hx1⟩:∃ y,y=w1.drew:=⟨_,rfl⟩
 have HBX:=Zh (show Below w.heap.size w x1 by rw [hx1];exact HB1.out.drew)
 have HNX:=Zh (HN.out.below HBX.out)
 have HC:=Zh (HNX.out.take hu f md hm)
 have hcel:∀ (W:World) (o':Hs),HE w0 W K jh bd j jx o'→o'.up=true→W.cell? ⟨jh,5,none⟩=some (.pointer (some ⟨jx,0,none⟩)):=fun W o' h e => by
  have:=h.cells.2.2.2.2.2
  rw [e] at this
  exact this
 have hT:x1.cell? ⟨b2,0,none⟩=some (.pointer (some ⟨jh,0,none⟩))∧x1.cell? ⟨jh,5,none⟩=some (.pointer (some ⟨jx,0,none⟩))∧x1.cell? ⟨b1,2,none⟩=some (.string md):=⟨(K2.out.below HBX.out).blk.cell 0,hcel x1 _ HNX.out hu,(K1.out.below HBX.out).blk.cell 2⟩
 obtain ⟨R,hR⟩:∃ R,R=takeC md.data.toList o.d o.x:=⟨_,rfl⟩
 rw [← hR] at HC ⊢
 have HKX:=Zh (And.intro (K1.out.below HBX.out) (K2.out.below HBX.out))
 clear hR hq
 have hTX:=hT
 clear hT
 have hT:=hTT
 go_enter Tryz.func118,Tryz.ntmps118
 go_wp2_with fail
 refine wp_region_two (T:=fun W => W.cell? ⟨b2,0,none⟩=some (.pointer (some ⟨jh,0,none⟩))∧W.cell? ⟨jh,0,none⟩=some (.int .i64 o.id)∧W.cell? ⟨b1,1,none⟩=some (.int .i64 mt)) (S:=fun _ => True) (n:=99) (by kernel_rfl) ?_
 rw [← hw1]
 clear hw1
 refine tk 0 5 hT hS ?_
 refine tk 1 6 hT hS ?_
 try simp only [xq]
 refine tk 2 7 hT hS ?_
 refine tk 3 8 hT hS ?_
 try simp only [xq]
 refine tk 4 9 hT hS ?_
 refine tk 5 10 hT hS ?_
 try simp only [xq]
 refine tk 6 11 hT hS ?_
 try simp only [xq]
 refine two_done (by kernel_rfl) ?_ _
 clear hT
 clear hTT
 have hT:=hTX
 clear hTX
 go_wp2_with fail
 refine wp_region_two (T:=fun W => W.cell? ⟨b2,0,none⟩=some (.pointer (some ⟨jh,0,none⟩))∧W.cell? ⟨jh,5,none⟩=some (.pointer (some ⟨jx,0,none⟩))∧W.cell? ⟨b1,2,none⟩=some (.string md)) (S:=fun _ => True) (n:=99) (by kernel_rfl) ?_
 rw [← hx1]
 clear hx1
 refine tk 0 13 hT hS ?_
 refine tk 1 14 hT hS ?_
 try simp only [xq]
 refine tk 2 15 hT hS ?_
 refine tk 3 16 hT hS ?_
 try simp only [xq]
 refine tk 4 17 hT hS ?_
 refine tk 5 18 hT hS ?_
 try simp only [xq]
 refine two_one 6 rfl (by kernel_rfl) ?_
 intro K0 hK0
 go_simp
 refine HC.out.mono ?_
 rintro e w2 ⟨rfl,hn2,hk2⟩
 have HH:=Zh (And.intro hn2 ((Keeps.below HBX.out).trans hk2))
 have hT3:w2.cell? ⟨b2,0,none⟩=some (.pointer (some ⟨jh,0,none⟩))∧w2.cell? ⟨jh,5,none⟩=some (.pointer (some ⟨jx,0,none⟩))∧w2.cell? ⟨b1,2,none⟩=some (.string md):=⟨(HKX.out.2.keeps hk2).blk.cell 0,hcel w2 _ hn2 hu,(HKX.out.1.keeps hk2).blk.cell 2⟩
 refine hK0.out _ _ hT3 (fun _ _ => hS) ?_
 clear hK0 K0
 try simp only [xq]
 clear hT hk2 hn2 HC
 have hT:=hT3
 clear hT3
 refine tk 7 12 hT hS ?_
 refine tk 8 20 hT hS ?_
 try simp only [xq]
 refine tk 9 21 hT hS ?_
 refine tk 10 3 hT hS ?_
 try simp only [xq]
 refine tk 11 4 hT hS ?_
 try simp only [xq]
 refine two_done (by kernel_rfl) ?_ _
 clear hT
 go_wp2_with fail
 go_ret
 exact ⟨rfl,HH.out⟩
end
theorem enters_htake:Go.Proofs.Enters Tryz.prog 118:=enters_of Tryz.func118 (by kernel_rfl) rfl
section
variable {w0 w w':World} {P S K:Nat→Prop} {jh bd j jx s:Nat} {o:Hs}
theorem ho_take (n:HE w0 w K jh bd j jx o) (m:Ml) (hm:m.data.size≤maxLen) (ok:o.up=true→Few o.d o.h s o.x) :
  Calls Tryz.prog 67 #[.pointer (some ⟨jh,0,none⟩),mlV m] w fun e w' => e=.returned (.int .i64 (HoR o (takeO m o).1 (takeO m o).2).1)∧HE w0 w' K jh bd j jx (HoR o (takeO m o).1 (takeO m o).2).2∧Keeps K w w':=by
 obtain ⟨w1,hw1⟩:∃ w1,w1=((w.alloc (.cells #[.pointer (some ⟨jh,0,none⟩)] 89 (0,0))).alloc (.cells (mlRow m).toArray 100 (0,0))):=⟨_,rfl⟩
 have hb1:Below w.heap.size w w1:=by rw [hw1];exact (((Below.refl _ _).alloc (by first | exact Nat.le_refl _ | (simp only [alloc_size];omega)) _).alloc (by first | exact Nat.le_refl _ | (simp only [alloc_size];omega)) _)
 have hp0:Blk w1 w.heap.size 89 #[.pointer (some ⟨jh,0,none⟩)]:=by
  have:=Blk.alloc_new w 89 #[.pointer (some ⟨jh,0,none⟩)]
  rw [hw1]
  exact (by simpa using this:Blk (w.alloc (.cells #[.pointer (some ⟨jh,0,none⟩)] 89 (0,0))) w.heap.size 89 #[.pointer (some ⟨jh,0,none⟩)]).below ((Below.refl _ _).alloc (by first | exact Nat.le_refl _ | (simp only [alloc_size];omega)) _)
 have hp1:Blk w1 (w.heap.size+1) 100 (mlRow m).toArray:=by
  have:=Blk.alloc_new (w.alloc (.cells #[.pointer (some ⟨jh,0,none⟩)] 89 (0,0))) 100 (mlRow m).toArray
  rw [hw1]
  exact (by simpa using this:Blk ((w.alloc (.cells #[.pointer (some ⟨jh,0,none⟩)] 89 (0,0))).alloc (.cells (mlRow m).toArray 100 (0,0))) (w.heap.size+1) 100 (mlRow m).toArray)
 have n1:=n.add hb1
 by_cases hu:o.up=true
 case pos =>
  rw [HoR.up hu]
  have hd:=ho_does n1 hu enters_htake (T:=fun r o2 K2 w2 => r=(takeO m o).1∧o2=(takeO m o).2∧K2=Also K w w1∧Keeps (Also K w w1) w1 w2) (by
   refine (ho_take1 n1 hu (ok hu) m hm ⟨hp1,.inr ⟨by omega,hp1.lt⟩⟩ ⟨hp0,.inr ⟨by omega,hp0.lt⟩⟩).mono ?_
   rintro e w2 ⟨rfl,hn,hk⟩
   exact ⟨_,_,_,rfl,hn,rfl,rfl,rfl,hk⟩)
  have HD:=Zh hd
  have HB1:=Zh hb1
  have HW1:=Zh hw1
  clear hd hb1 hw1 n n1 hp0 hp1 hu
  unfold mlV mlRow at *
  go_enter Tryz.func67,Tryz.ntmps67
  go_wp2_with fail
  rw [← HW1.out]
  refine HD.out.mono ?_
  rintro e w3 ⟨r,o2,K2,w2,rfl,⟨rfl,rfl,rfl,hk2⟩,hn3,hk3⟩
  have HH:=Zh (And.intro (hn3.drop fun k e => (.inl e:Also K w w1 k)) ((Keeps.below HB1.out).trans ((hk2.trans hk3).mono fun k e => (.inl e:Also K w w1 k))))
  clear hk2 hn3 hk3 HD
  go_wp2_with fail
  go_ret
  exact ⟨rfl,HH.out⟩
 case neg =>
 rw [Bool.not_eq_true] at hu
 rw [HoR.no hu]
 have HD:=Zh (fun v => ho_does_no n1 hu v)
 have HH:=Zh (And.intro (n.below hb1) (Keeps.below (X:=K) hb1))
 have HW1:=Zh hw1
 clear hb1 hw1 n n1 hp0 hp1 hu
 unfold mlV mlRow at *
 go_enter Tryz.func67,Tryz.ntmps67
 go_wp2_with fail
 rw [← HW1.out]
 refine (HD.out _).mono ?_
 rintro e w3 ⟨rfl,rfl⟩
 clear HD
 go_wp2_with fail
 go_ret
 exact ⟨rfl,HH.out⟩
end
section
variable {w0 w w':World} {P S K:Nat→Prop} {jh bd j jx b1 b2 s:Nat} {o:Hs} {t t1 t2:TypeId}
def tickO (o:Hs):Int×Hs:=if o.now≥1073741824 then (3,o) else (0,{ o with now:=o.now+1 })
theorem ho_tick (n:HE w0 w K jh bd j jx o) (hnow:0≤o.now∧o.now≤2000000000) :
  Calls Tryz.prog 66 #[.pointer (some ⟨jh,0,none⟩)] w fun e w' => e=.returned (.int .i64 (tickO o).1)∧HE w0 w' K jh bd j jx (tickO o).2∧Keeps K w w':=by
 obtain ⟨c0,c1,c2,c3,c4,c5⟩:=n.cells
 have f1:=n.blk.free 1
 have HST:=Zh (ho_state n)
 have HSE:=Zh (n.set (i:=1) (v:=.int .i64 (o.now+1)) (o':={ o with now:=o.now+1 }) rfl (fun e => e) ⟨rfl,rfl,rfl⟩)
 have HN:=Zh n
 obtain ⟨st,hst⟩:∃ st:Int,st=(if o.up=true then 0 else 250):=⟨_,rfl⟩
 rw [← hst] at HST
 have hs1:(st == 1)=false:=by rw [hst];split <;> rfl
 have hwr:IntKind.i64.wrap (o.now+1)=o.now+1:=by rw [IntKind.wrap_i64];omega
 unfold tickO
 obtain ⟨now,hno⟩:∃ now,now=o.now:=⟨_,rfl⟩
 rw [← hno] at c1 HSE hwr ⊢
 clear n hst c0 c2 c3 c4 c5 hno hnow
 by_cases hq:now≥1073741824
 case pos =>
  rw [if_pos hq]
  go_enter Tryz.func66,Tryz.ntmps66
  go_wp2_with fail
  refine HST.out.mono ?_
  rintro e w1 ⟨rfl,rfl⟩
  clear HST
  go_wp2_with fail
  go_ret
  exact ⟨rfl,HN.out,Chg.refl _ _⟩
 case neg =>
 rw [if_neg hq]
 have hq2:now<1073741824:=by omega
 go_enter Tryz.func66,Tryz.ntmps66
 go_wp2_with fail
 refine HST.out.mono ?_
 rintro e w1 ⟨rfl,rfl⟩
 clear HST
 go_wp2_with fail
 go_ret
 exact ⟨rfl,HSE.out⟩
theorem ho_now (n:HE w0 w K jh bd j jx o):Calls Tryz.prog 50 #[.pointer (some ⟨jh,0,none⟩)] w fun e w' => e=.returned (.int .i64 o.now)∧w=w':=by
 obtain ⟨c0,c1,c2,c3,c4,c5⟩:=n.cells
 clear n c0 c2 c3 c4 c5
 go_enter Tryz.func50,Tryz.ntmps50
 go_wp2_with fail
 go_ret
 exact ⟨rfl,rfl⟩
theorem ho_refused (n:HE w0 w K jh bd j jx o):Calls Tryz.prog 55 #[.pointer (some ⟨jh,0,none⟩)] w fun e w' => e=.returned (.int .i64 o.refused)∧w=w':=by
 obtain ⟨c0,c1,c2,c3,c4,c5⟩:=n.cells
 clear n c0 c1 c3 c4 c5
 go_enter Tryz.func55,Tryz.ntmps55
 go_wp2_with fail
 go_ret
 exact ⟨rfl,rfl⟩
def curO (o:Hs):Value:=if o.up=true then curV o.x.next o.x.gap else curV 0 0
theorem ho_cursor (n:HE w0 w K jh bd j jx o):Calls Tryz.prog 46 #[.pointer (some ⟨jh,0,none⟩)] w fun e w' => e=.returned (curO o)∧Below w.heap.size w w':=by
 obtain ⟨w1,hw1⟩:∃ y,y=w.alloc (.cells #[.int .i64 0,.int .i64 0] 30 (0,0)):=⟨_,rfl⟩
 obtain ⟨qc,hqc⟩:∃ q,q=w.heap.size:=⟨_,rfl⟩
 have hb1:=Zb hw1
 have hk1:=Zk hw1 hqc
 have HU:=Zh (ho_up (n.below hb1))
 obtain ⟨c0,c1,c2,c3,c4,c5⟩:=(n.below hb1).cells
 have HW1:=Zh hw1
 have HQC:=Zh hqc
 have HB1:=Zh hb1
 have HK1:=Zh hk1
 have q0:=hk1.cell 0
 have q1:=hk1.cell 1
 have fq0:=hk1.free 0
 have fq1:=hk1.free 1
 simp only [Zx] at q0 q1
 unfold curO
 cases hu:o.up
 case false =>
  rw [hu] at HU
  have HH:=Zh (show Below w.heap.size w ((w1.setCell ⟨qc,0,none⟩ (.int .i64 0)).setCell ⟨qc,1,none⟩ (.int .i64 0)) from (hb1.setCell (p:=⟨qc,0,none⟩) (by show w.heap.size≤qc;omega) _).setCell (p:=⟨qc,1,none⟩) (by show w.heap.size≤qc;omega) _)
  have s0:=(hk1.set 0 (.int .i64 0)).set 1 (.int .i64 0)
  have s1:=s0.cell 0
  have s2:=s0.cell 1
  simp only [List.getElem?_toArray,List.getElem?_cons_zero,List.getElem?_cons_succ,List.setIfInBounds_toArray,List.set_cons_zero,List.set_cons_succ] at s1 s2
  rw [if_neg (by decide)]
  unfold curV
  clear n hw1 hqc hb1 hk1 c0 c1 c2 c3 c4 c5 hu s0
  go_enter Tryz.func46,Tryz.ntmps46
  go_wp2_with fail
  rw [← HW1.out,← HQC.out]
  refine HU.out.mono ?_
  rintro e w2 ⟨rfl,rfl⟩
  clear HU
  go_wp2_with fail
  refine bodyPost_ret (v:=.agg #[.int .i64 0,.int .i64 0]) (by simp [results,Tryz.results46,go_sem,s1,s2]) rfl ?_
  exact ⟨rfl,HH.out⟩
 case true =>
 rw [hu] at HU c5
 unfold upP at c5
 simp only [if_true] at c5
 rw [if_pos rfl]
 have HC:=Zh ((n.below hb1).cursor hu)
 unfold curV at HC ⊢
 obtain ⟨nx,hnx⟩:∃ a,a=o.x.next:=⟨_,rfl⟩
 obtain ⟨gp,hgp⟩:∃ a,a=o.x.gap:=⟨_,rfl⟩
 rw [← hnx,← hgp] at HC ⊢
 clear n hw1 hqc hb1 hk1 c0 c1 c2 c3 c4 hu hnx hgp
 go_enter Tryz.func46,Tryz.ntmps46
 go_wp2_with fail
 rw [← HW1.out,← HQC.out]
 refine HU.out.mono ?_
 rintro e w2 ⟨rfl,rfl⟩
 clear HU
 go_wp2_with fail
 refine HC.out.mono ?_
 rintro e w3 ⟨rfl,hb3⟩
 have hk3:=HK1.out.below hb3
 have hb30:Below w.heap.size w w3:=HB1.out.trans (hb3.mono HB1.out.size)
 have HH:=Zh (show Below w.heap.size w ((w3.setCell ⟨qc,0,none⟩ (.int .i64 nx)).setCell ⟨qc,1,none⟩ (.int .i64 gp)) from (hb30.setCell (p:=⟨qc,0,none⟩) (by show w.heap.size≤qc;rw [HQC.out];exact Nat.le_refl _) _).setCell (p:=⟨qc,1,none⟩) (by show w.heap.size≤qc;rw [HQC.out];exact Nat.le_refl _) _)
 clear q0 q1 fq0 fq1
 have q0:=hk3.cell 0
 have q1:=hk3.cell 1
 have fq0:=hk3.free 0
 have fq1:=hk3.free 1
 have s0:=(hk3.set 0 (.int .i64 nx)).set 1 (.int .i64 gp)
 have s1:=s0.cell 0
 have s2:=s0.cell 1
 simp only [List.getElem?_toArray,List.getElem?_cons_zero,List.getElem?_cons_succ,List.setIfInBounds_toArray,List.set_cons_zero,List.set_cons_succ] at s1 s2 q0 q1
 clear hb3 hk3 hb30 HC s0
 go_wp2_with fail
 refine bodyPost_ret (v:=.agg #[.int .i64 nx,.int .i64 gp]) (by simp [results,Tryz.results46,go_sem,s1,s2]) rfl ?_
 exact ⟨rfl,HH.out⟩
theorem ho_waiting (n:HE w0 w K jh bd j jx o):Calls Tryz.prog 56 #[.pointer (some ⟨jh,0,none⟩)] w fun e w' => e=.returned (.bool (o.up && !o.x.out.toList.isEmpty))∧w=w':=by
 have HU:=Zh (ho_up n)
 obtain ⟨c0,c1,c2,c3,c4,c5⟩:=n.cells
 cases hu:o.up
 case false =>
  rw [hu] at HU
  rw [Bool.false_and]
  clear n c0 c1 c2 c3 c4 c5 hu
  go_enter Tryz.func56,Tryz.ntmps56
  go_wp2_with fail
  refine HU.out.mono ?_
  rintro e w2 ⟨rfl,rfl⟩
  clear HU
  go_wp2_with fail
  go_ret
  exact ⟨rfl,rfl⟩
 case true =>
 rw [hu] at HU c5
 unfold upP at c5
 simp only [if_true] at c5
 rw [Bool.true_and]
 have HC:=Zh (n.waiting hu)
 obtain ⟨b,hb⟩:∃ b,b=!o.x.out.toList.isEmpty:=⟨_,rfl⟩
 rw [← hb] at HC ⊢
 clear n c0 c1 c2 c3 c4 hu hb
 go_enter Tryz.func56,Tryz.ntmps56
 go_wp2_with fail
 refine HU.out.mono ?_
 rintro e w2 ⟨rfl,rfl⟩
 clear HU
 go_wp2_with fail
 refine HC.out.mono ?_
 rintro e w3 ⟨rfl,rfl⟩
 clear HC
 go_wp2_with fail
 go_ret
 exact ⟨rfl,rfl⟩
end
end Go.Proofs.YtdacanghbepjpaaGreatDoor
namespace Go.Proofs.YtdacanghbepjpaaGreatDoor
open Dsk
noncomputable def mailO (a:OAct) (id:Int):Ml:=⟨-1,if a.own=true then id else 7,if a.data=noB then (encAck a.ah a.af a.an).1 else a.data⟩
noncomputable def doesO (a:OAct) (o:Hs):(List Ml×Int)×Hs :=
 if a.kind=1 then (([],(HoR o (appP o.d o.h a.s).1 (wroteO o a.s)).1),(HoR o (appP o.d o.h a.s).1 (wroteO o a.s)).2)
 else if a.kind=2 then (([],(HoR o (syncP o.d o.h).1 { o with d:=(syncP o.d o.h).2.2,h:=(syncP o.d o.h).2.1 }).1),(HoR o (syncP o.d o.h).1 { o with d:=(syncP o.d o.h).2.2,h:=(syncP o.d o.h).2.1 }).2)
 else if a.kind=3 then (([],(HoR o (rotP o.d o.h).1 { o with d:=(rotP o.d o.h).2.2,h:=(rotP o.d o.h).2.1 }).1),(HoR o (rotP o.d o.h).1 { o with d:=(rotP o.d o.h).2.2,h:=(rotP o.d o.h).2.1 }).2)
 else if a.kind=4 then (([],(HoR o (retP a.n o.d o.h).1 { o with d:=(retP a.n o.d o.h).2.2,h:=(retP a.n o.d o.h).2.1 }).1),(HoR o (retP a.n o.d o.h).1 { o with d:=(retP a.n o.d o.h).2.2,h:=(retP a.n o.d o.h).2.1 }).2)
 else if a.kind=5 then stepR o
 else if a.kind=6 then (([],(tickO o).1),(tickO o).2)
 else if a.kind=7 then (([],(HoR o (takeO (mailO a o.id) o).1 (takeO (mailO a o.id) o).2).1),(HoR o (takeO (mailO a o.id) o).1 (takeO (mailO a o.id) o).2).2)
 else if a.kind=15 then (([],(HoR o (o.d.crash a.keep).1 { o with d:=(o.d.crash a.keep).2 }).1),(HoR o (o.d.crash a.keep).1 { o with d:=(o.d.crash a.keep).2 }).2)
 else (([],(HoR o (o.d.failAt a.n a.keep).1 { o with d:=(o.d.failAt a.n a.keep).2 }).1),(HoR o (o.d.failAt a.n a.keep).1 { o with d:=(o.d.failAt a.n a.keep).2 }).2)
structure HoB (o:Hs) (c k:Nat):Prop where
 now:0≤o.now∧o.now≤k
 ref:0≤o.refused∧o.refused≤k
 id:Po.HostOk o.id
 st:(o.up=true∧(∃ s,HoI o.d o.h s o.x o.id c k)∧0≤o.x.sent∧o.x.sent≤o.now)∨(o.up=false∧∃ d h s x,HoD d h s x o.d o.id c k)
section
variable {o:Hs} {k s c:Nat} {a:OAct}
theorem HoB.few (b:HoB o c k) (hk:k≤800) (hc:250*(k+2)≤c) (hu:o.up=true):∃ s,Few o.d o.h s o.x∧NowB o.now o.x.sent∧0≤o.refused∧o.refused≤1000000:=by
 have h1:=b.now
 have h2:=b.ref
 rcases b.st with ⟨_,⟨s,i⟩,h3,h4⟩ | ⟨e,_⟩
 · exact ⟨s,i.few hk hc,⟨by omega,by omega⟩,by omega,by omega⟩
 rw [hu] at e;cases e
theorem does_up (hk:k≤790) (hc:250*(k+2)≤c) (hu:o.up=true) (i:HoI o.d o.h s o.x o.id c k) (ha:a.keep.length≤1000) :
  (HoA o.d o.h s o.x (doesO a o).2.d (doesO a o).2.h (doesO a o).2.x o.id c (k+1))∧(doesO a o).2.up=!(doesO a o).2.d.off∧(doesO a o).2.id=o.id:=by
 have hoff:=i.node.off
 have hsame:HoA o.d o.h s o.x o.d o.h o.x o.id c (k+1):=.inl ⟨hoff,s,i.later,HoM.refl _ _ _⟩
 unfold doesO
 simp only [HoR.up hu]
 split
 · exact ⟨i.app (by omega) a.s,by simp only [Hs.settle,wroteO,hu,Bool.true_and],rfl⟩
 split
 · exact ⟨i.sync,by simp only [Hs.settle,hu,Bool.true_and],rfl⟩
 split
 · exact ⟨i.rot (by omega),by simp only [Hs.settle,hu,Bool.true_and],rfl⟩
 split
 · exact ⟨i.ret a.n,by simp only [Hs.settle,hu,Bool.true_and],rfl⟩
 split
 · unfold stepR
   rw [if_pos hu]
   exact ⟨i.step (by omega) hc o.now,by simp only [Hs.settle,stepO,hu,Bool.true_and],rfl⟩
 split
 · unfold tickO
   split
   · exact ⟨hsame,by rw [hu,hoff];rfl,rfl⟩
   exact ⟨hsame,by show o.up=!o.d.off;rw [hu,hoff];rfl,rfl⟩
 split
 · unfold takeO
   split
   · exact ⟨i.take (by omega) hc _,by simp only [Hs.settle,hu,Bool.true_and],rfl⟩
   exact ⟨hsame,by simp only [Hs.settle,hu,Bool.true_and],rfl⟩
 split
 · exact ⟨(i.crash a.keep).2,by simp only [Hs.settle,hu,Bool.true_and],rfl⟩
 exact ⟨i.fail a.n a.keep ha,by simp only [Hs.settle,hu,Bool.true_and],rfl⟩
theorem does_sent (hu:o.up=true) (h1:0≤o.x.sent) (h2:o.x.sent≤o.now):0≤(doesO a o).2.x.sent∧(doesO a o).2.x.sent≤(doesO a o).2.now∧o.now≤(doesO a o).2.now∧(doesO a o).2.now≤o.now+1∧o.refused≤(doesO a o).2.refused∧(doesO a o).2.refused≤o.refused+1:=by
 have hz:0≤o.x.sent∧o.x.sent≤o.now∧o.now≤o.now∧o.now≤o.now+1∧o.refused≤o.refused∧o.refused≤o.refused+1:=by omega
 unfold doesO
 simp only [HoR.up hu]
 split
 · refine ⟨h1,h2,Int.le_refl _,by show o.now≤o.now+1;omega,?_,?_⟩
   · show o.refused≤(if (appP o.d o.h a.s).1=0 then o.refused else o.refused+1)
     split <;> omega
   show (if (appP o.d o.h a.s).1=0 then o.refused else o.refused+1)≤o.refused+1
   split <;> omega
 split
 · exact hz
 split
 · exact hz
 split
 · exact hz
 split
 · unfold stepR
   rw [if_pos hu]
   have:=step_sent o.now o.d o.h o.x
   refine ⟨?_,?_,hz.2.2⟩
   · show 0≤(stepC o.now o.d o.h o.x).2.1.sent;omega
   show (stepC o.now o.d o.h o.x).2.1.sent≤o.now;omega
 split
 · unfold tickO
   split
   · exact hz
   exact ⟨h1,by show o.x.sent≤o.now+1;omega,by show o.now≤o.now+1;omega,Int.le_refl _,Int.le_refl _,by show o.refused≤o.refused+1;omega⟩
 split
 · unfold takeO
   split
   · have:=take_sent (mailO a o.id).data.data.toList o.d o.x
     refine ⟨?_,?_,hz.2.2⟩
     · show 0≤(takeC (mailO a o.id).data.data.toList o.d o.x).2.1.sent;omega
     show (takeC (mailO a o.id).data.data.toList o.d o.x).2.1.sent≤o.now;omega
   exact hz
 split
 · exact hz
 exact hz
theorem does_down (hu:o.up=false):(doesO a o).2.up=false∧(doesO a o).2.d=o.d∧(doesO a o).2.id=o.id∧(doesO a o).2.refused=o.refused∧o.now≤(doesO a o).2.now∧(doesO a o).2.now≤o.now+1:=by
 have hz:o.now≤o.now+1:=by omega
 unfold doesO
 simp only [HoR.no hu]
 repeat' split
 all_goals first
  | exact ⟨hu,rfl,rfl,rfl,Int.le_refl _,hz⟩
  | (unfold stepR;rw [if_neg (by rw [hu];decide)];exact ⟨hu,rfl,rfl,rfl,Int.le_refl _,hz⟩)
  | (unfold tickO;split;exact ⟨hu,rfl,rfl,rfl,Int.le_refl _,hz⟩;exact ⟨hu,rfl,rfl,rfl,hz,Int.le_refl _⟩)
theorem HoB.does (b:HoB o c k) (hk:k≤790) (hc:250*(k+2)≤c) (ha:a.keep.length≤1000):HoB (doesO a o).2 c (k+1):=by
 have h1:=b.now
 have h2:=b.ref
 rcases b.st with ⟨hu,⟨s,i⟩,h3,h4⟩ | ⟨hu,d,h,s,x,i⟩
 · obtain ⟨g1,g2,g3⟩:=does_up (a:=a) hk hc hu i ha
   obtain ⟨q1,q2,q3,q4,q5,q6⟩:=does_sent (a:=a) hu h3 h4
   refine ⟨⟨by omega,by omega⟩,⟨by omega,by omega⟩,by rw [g3];exact b.id,?_⟩
   rcases g1 with ⟨e,s',i',_⟩ | ⟨e,i'⟩
   · exact .inl ⟨by rw [g2,e];rfl,⟨s',by rw [g3];exact i'⟩,q1,q2⟩
   exact .inr ⟨by rw [g2,e];rfl,_,_,_,_,by rw [g3];exact i'⟩
 obtain ⟨g1,g2,g3,g4,g5,g6⟩:=does_down (a:=a) hu
 exact ⟨⟨by omega,by omega⟩,⟨by omega,by omega⟩,by rw [g3];exact b.id,.inr ⟨g1,d,h,s,x,by rw [g2,g3];exact i.later⟩⟩
end
structure Again (o o':Hs) (l:List Sg) (t:Str) (dr:Files) (d3:Dk):Prop where
 off:o.d.off=true
 start:o.d.start.1=0
 on:o.d.start.2.off=false
 files:LSt o.d.start.2 l t (lastT l++t).length dr
 next:nextOf l≤999999999
 opened:openP o.d.start.2 l t=(0,d3)
 dOff:d3.off=false
 load:loadD d3=((o'.x.next,o'.x.gap),0)
 is:o'=⟨o.id,o.now,o.refused,true,d3,⟨o.d.start.2.starts,false,l⟩,⟨o.id,o'.x.next,o'.x.gap,noB,0,0⟩⟩
theorem HoD.begins {d:Dk} {h:Hl} {s k c:Nat} {x:Dm} {o:Hs} (f:HoD d h s x o.d o.id c k) (hk:k≤800) (hc:250*(k+2)≤c) (h1:0≤o.now∧o.now≤(k:Int)) (h2:0≤o.refused∧o.refused≤(k:Int)) (h3:Po.HostOk o.id) :
  ∃ o' l t dr d3 s3,Again o o' l t dr d3∧HoB o' c (k+1)∧HoI o'.d o'.h s3 o'.x o'.id c (k+1)∧o'.up=true∧o'.id=o.id∧HoM h s x o'.h s3 o'.x∧o'.now=o.now∧o'.refused=o.refused∧o'.x.next=x.next∧o'.x.gap=x.gap:=by
 obtain ⟨a1,a2,a3,l',t',dr,a4,a5,d3,s3,a6,a7,a8,a9⟩:=f.again hk hc
 refine ⟨⟨o.id,o.now,o.refused,true,d3,⟨o.d.start.2.starts,false,l'⟩,⟨o.id,x.next,x.gap,noB,0,0⟩⟩,l',t',dr,d3,s3,⟨a1,a2,a3,a4,a5,a6,a8.node.off,a7,rfl⟩,⟨⟨h1.1,by show o.now≤((k+1:Nat):Int);omega⟩,⟨h2.1,by show o.refused≤((k+1:Nat):Int);omega⟩,h3,.inl ⟨rfl,⟨s3,a8⟩,Int.le_refl _,h1.1⟩⟩,a8,rfl,rfl,a9,rfl,rfl,rfl,rfl⟩
end Go.Proofs.YtdacanghbepjpaaGreatDoor
namespace Go.Proofs.YtdacanghbepjpaaGreatDoor
open Go.RowKit Go.Maps
open Dsk
section
variable {w0 w w':World} {P S K:Nat→Prop} {jh bd j jx b1 b2 s:Nat} {o:Hs} {d d':Dk} {h':Hl} {id now refused:Int} {a b:Int}
theorem ho_opens {u1 u2:Option Addr} (n:DA w0 P w bd d) (hk:Blk w jh 122 #[.int .i64 id,.int .i64 now,.int .i64 refused,.pointer (some ⟨bd,0,none⟩),.pointer u1,.pointer u2]) (ho:¬ P jh) (hn:w0.heap.size≤jh)
  (HO:Calls Tryz.prog 101 #[.pointer (some ⟨bd,0,none⟩)] w fun e w' => ∃ j',e=.returned (.tuple #[.pointer (some ⟨j',0,none⟩),.int .i64 0])∧∃ P',Gr P P' w∧LA w0 P' w' bd j' d' h'∧Chg P w w') (hh:Po.HostOk id) (hl:loadD d'=((a,b),0)) :
  Calls Tryz.prog 103 #[.pointer (some ⟨jh,0,none⟩)] w fun e w' => e=.returned (.int .i64 0)∧∃ j jx P',Gr P P' w∧HN w0 P' w' bd j jx ⟨id,now,refused,true,d',h',⟨id,a,b,noB,0,0⟩⟩∧Blk w' jh 122 (hsV ⟨id,now,refused,true,d',h',⟨id,a,b,noB,0,0⟩⟩ bd j jx)∧¬ P' jh∧Chg (fun k => P k∨k=jh) w w':=by
 have HOP:=Zh HO
 have k3:=hk.cell 3
 simp only [Zx] at k3
 have HK:=Zh hk
 clear HO n hk
 go_enter Tryz.func103,Tryz.ntmps103
 go_wp2_with fail
 refine HOP.out.mono ?_
 rintro e w1 ⟨j1,rfl,P1,hg1,hla,hc1⟩
 have hk1:=HK.out.chg hc1 ho
 have ho1:=hg1.not HK.out.lt ho
 have hld:(loadD d').2=0:=by rw [hl]
 obtain ⟨x1,hx1⟩:∃ y,y=w1.drew:=⟨_,rfl⟩
 have HBX:=Zh (Zd hx1)
 have HDO:=Zh ((hla.below HBX.out).daemon id hh hld)
 rw [hl] at HDO
 have HK1:=Zh hk1
 have HG1:=Zh hg1
 have HC1:=Zh hc1
 have HO1:=Zh ho1
 have HHO:=Zh ho
 have HNW:=Zh hn
 have HTT:=Zh (fun (W:World) (hW:Below w1.heap.size w1 W) => show W.cell? ⟨jh,0,none⟩=some (.int .i64 id)∧W.cell? ⟨jh,3,none⟩=some (.pointer (some ⟨bd,0,none⟩)) from ⟨(HK1.out.below hW).cell 0,(HK1.out.below hW).cell 3⟩)
 have hT:=HTT.out x1 HBX.out
 have hS:True:=trivial
 clear HOP hk1 hg1 hla hc1 hld hl ho1 ho k3 hn
 go_wp2_with fail
 refine wp_region_two (T:=fun W => W.cell? ⟨jh,0,none⟩=some (.int .i64 id)∧W.cell? ⟨jh,3,none⟩=some (.pointer (some ⟨bd,0,none⟩))) (S:=fun _ => True) (n:=99) (by kernel_rfl) ?_
 rw [← hx1]
 clear hx1
 refine tk 0 18 hT hS ?_
 refine tk 1 19 hT hS ?_
 try simp only [xq]
 refine tk 2 20 hT hS ?_
 refine tk 3 21 hT hS ?_
 try simp only [xq]
 refine tk 4 22 hT hS ?_
 refine tk 5 23 hT hS ?_
 try simp only [xq]
 refine tk 6 24 hT hS ?_
 refine tk 7 25 hT hS ?_
 try simp only [xq]
 refine tk 8 26 hT hS ?_
 try simp only [xq]
 refine two_one 9 rfl (by kernel_rfl) ?_
 intro K0 hK0
 go_simp
 refine HDO.out.mono ?_
 rintro e w2 ⟨jx,rfl,hq,hna,hb2⟩
 have hb12:Below w1.heap.size w1 w2:=HBX.out.trans (hb2.mono HBX.out.size)
 have hT3:=HTT.out w2 hb12
 refine hK0.out _ _ hT3 (fun _ _ => hS) ?_
 clear hK0 K0
 try simp only [xq]
 clear hT
 have hT:=hT3
 clear hT3
 refine tk 10 17 hT hS ?_
 refine tk 11 28 hT hS ?_
 try simp only [xq]
 refine tk 12 29 hT hS ?_
 refine tk 13 5 hT hS ?_
 try simp only [xq]
 refine tk 14 4 hT hS ?_
 try simp only [xq]
 refine two_done (by kernel_rfl) ?_ _
 clear hT
 have hk2:=HK1.out.below hb12
 have f4:=hk2.free 4
 have f5:=hk2.free 5
 have c4:=hk2.cell 4
 have c5:=hk2.cell 5
 simp only [Zx] at c4 c5
 have hk3:=(hk2.set 4 (.pointer (some ⟨j1,0,none⟩))).set 5 (.pointer (some ⟨jx,0,none⟩))
 simp only [List.setIfInBounds_toArray,List.set_cons_zero,List.set_cons_succ] at hk3
 have hc3:Chg (fun k => k=jh) w2 ((w2.setCell ⟨jh,4,none⟩ (.pointer (some ⟨j1,0,none⟩))).setCell ⟨jh,5,none⟩ (.pointer (some ⟨jx,0,none⟩))):=((Chg.refl (fun k => k=jh) w2).setCell (p:=⟨jh,_,none⟩) (fun _ => rfl) _).setCell (p:=⟨jh,_,none⟩) (fun _ => rfl) _
 have hjn:¬ (P1 jh∨jh=jx):=fun e => e.elim HO1.out fun e => by have:=HK1.out.lt;have:=HBX.out.size;omega
 have hna3:=hna.other hc3 (by rintro k _ rfl;exact ⟨HNW.out,hjn⟩)
 have HND:=Zh (show HN w0 _ _ bd j1 jx ⟨id,now,refused,true,d',h',⟨id,a,b,noB,0,0⟩⟩ from ⟨fun _ => hna3,hna3.disk⟩)
 have HBK:=Zh (show Blk _ jh 122 (hsV ⟨id,now,refused,true,d',h',⟨id,a,b,noB,0,0⟩⟩ bd j1 jx) from hk3)
 have HJN:=Zh hjn
 have HCH:=Zh (show Chg (fun k => P k∨k=jh) w _ from Chg.thenOn (Chg.thenOn (Chg.mono HC1.out fun _ _ e => .inl e) (Chg.of_below (S:=fun _ => False) hb12) (fun _ _ e => e.elim)) hc3 fun i _ e => .inr e)
 have HGR:=Zh (show Gr P (fun k => P1 k∨k=jx) w from fun k e => by
  rcases e with e | e
  · exact HG1.out k e
  have:=HC1.out.size;have:=HBX.out.size;exact .inr (by omega))
 clear hna hna3 hb2 hb12 hk2 hk3 hc3 hjn HK1 HDO HG1 HC1 HO1 HHO HK hq HTT HBX
 go_wp2_with fail
 go_ret
 exact ⟨rfl,j1,jx,_,HGR.out,HND.out,HBK.out,HJN.out,HCH.out⟩
theorem ho_restart {l:List Sg} {t:Str} {dr:Files} {d3:Dk} {s9:Nat} (n:HE w0 w K jh bd j jx o) (he:LEnv w0) (hu:o.up=false) (hoff:o.d.off=true) (hs1:o.d.start.1=0) (hs2:o.d.start.2.off=false) (hls:LSt o.d.start.2 l t s9 dr) (hnx:nextOf l≤999999999) (hop:openP o.d.start.2 l t=(0,d3)) (hd3:d3.off=false) (hl:loadD d3=((a,b),0)) (hh:Po.HostOk o.id) :
  Calls Tryz.prog 48 #[.pointer (some ⟨jh,0,none⟩)] w fun e w' => e=.returned (.int .i64 0)∧∃ j jx,HE w0 w' K jh bd j jx ⟨o.id,o.now,o.refused,true,d3,⟨o.d.start.2.starts,false,l⟩,⟨o.id,a,b,noB,0,0⟩⟩∧Keeps K w w':=by
 have HST:=Zh (ho_state n)
 rw [if_neg (by rw [hu];decide)] at HST
 have HUP:=Zh n.isUp
 rw [hoff] at HUP
 obtain ⟨P,⟨_,hda⟩,hbk,hp1,hp2,hK⟩:=n
 have k3:=hbk.cell 3
 simp only [hsV,List.getElem?_toArray,List.getElem?_cons_zero,List.getElem?_cons_succ] at k3
 have HSR:=Zh hda.start
 rw [hs1] at HSR
 have HBK:=Zh hbk
 have HP1:=Zh hp1
 have HP2:=Zh hp2
 have HKK:=Zh hK
 have HA:=Zh (And.intro hs2 (And.intro hls (And.intro hnx (And.intro hop (And.intro hd3 (And.intro hl hh))))))
 have HEV:=Zh he
 clear hda hbk hp1 hp2 hK hs1 hs2 hls hnx hop hd3 hl hh hoff he
 go_enter Tryz.func48,Tryz.ntmps48
 go_wp2_with fail
 refine HST.out.mono ?_
 rintro e w1 ⟨rfl,rfl⟩
 clear HST
 go_wp2_with fail
 refine HUP.out.mono ?_
 rintro e w1 ⟨rfl,rfl⟩
 clear HUP
 go_wp2_with fail
 refine HSR.out.mono ?_
 rintro e w2 ⟨rfl,P2,hg2,hd2,hc2⟩
 clear HSR k3
 obtain ⟨hs2,hls,hnx,hop,hd3,hl,hh⟩:=HA.out
 have hk2:=HBK.out.chg hc2 HP1.out
 have hopen:=hd2.opened HEV.out hs2 hls hnx (by rw [hop])
 rw [hop] at hopen
 have HSS:=Zh (ho_opens (id:=o.id) (now:=o.now) (refused:=o.refused) hd2 hk2 (hg2.not HBK.out.lt HP1.out) HP2.out hopen hh hl)
 have HG2:=Zh hg2
 have HC2:=Zh hc2
 have HD3:=Zh hd3
 clear hg2 hd2 hc2 hk2 hopen hs2 hls hnx hop hd3 hl hh HA
 go_wp2_with fail
 refine HSS.out.mono ?_
 rintro e w3 ⟨rfl,j3,jx3,P3,hg3,hn3,hk3,hp3,hc3⟩
 have hgr:=HG2.out.trans HC2.out.size hg3
 have hall:Keeps K w w3:=Chg.thenOn (Chg.mono HC2.out fun k _ e e2 => (HKK.out k e2).1 e) hc3 fun i hi e e2 => by
  rcases e with e | e
  · rcases HG2.out i e with e | e
    · exact (HKK.out i e2).1 e
    have:=(HKK.out i e2).2.1;omega
  exact (HKK.out i e2).2.2 e
 have hsz:w.heap.size≤w3.heap.size:=hall.size
 have hhe:HE w0 w3 K jh bd j3 jx3 ⟨o.id,o.now,o.refused,true,_,_,_⟩:=⟨P3,hn3,hk3,hp3,HP2.out,fun k e => ⟨fun e2 => by
  rcases hgr k e2 with e3 | e3
  · exact (HKK.out k e).1 e3
  have:=(HKK.out k e).2.1;omega,Nat.lt_of_lt_of_le (HKK.out k e).2.1 hsz,(HKK.out k e).2.2⟩⟩
 have HDN:=Zh (ho_down hhe)
 have HAL:=Zh hall
 clear hg3 hn3 hk3 hp3 hc3 hgr hall hhe HSS HG2 HC2 hsz
 go_wp2_with fail
 refine HDN.out.mono ?_
 rintro e w4 ⟨rfl,hd⟩
 unfold DownP Hs.settle at hd
 simp only [HD3.out,Bool.not_false,Bool.and_true] at hd
 have HH:=Zh (show ∃ j jx,HE w0 w4 K jh bd j jx ⟨o.id,o.now,o.refused,true,d3,⟨o.d.start.2.starts,false,l⟩,⟨o.id,a,b,noB,0,0⟩⟩∧Keeps K w w4 from ⟨j3,jx3,hd.1,HAL.out.trans hd.2⟩)
 clear hd HAL HDN
 go_wp2_with fail
 go_ret
 exact ⟨rfl,HH.out⟩
theorem ho_restart_up (n:HE w0 w K jh bd j jx o) (hu:o.up=true):Calls Tryz.prog 48 #[.pointer (some ⟨jh,0,none⟩)] w fun e w' => e=.returned (.int .i64 250)∧w=w':=by
 have HST:=Zh (ho_state n)
 rw [if_pos hu] at HST
 clear n hu
 go_enter Tryz.func48,Tryz.ntmps48
 go_wp2_with fail
 refine HST.out.mono ?_
 rintro e w1 ⟨rfl,rfl⟩
 clear HST
 go_wp2_with fail
 go_ret
 exact ⟨rfl,rfl⟩
theorem DA.rebase {w1:World} (n:DA w P w1 bd d) (hw:Below w0.heap.size w0 w):DA w0 P w1 bd d:=by
 obtain ⟨X,⟨F,h1,h2,h3,h4⟩,hP,hU⟩:=n
 have hz:=h4.size
 refine ⟨fun k => X k∨k<w.heap.size,⟨F,h1,fun k hk => ⟨Nat.le_trans hw.size (h2 k hk).1,fun e => e.elim (h2 k hk).2 fun e => by have:=(h2 k hk).1;omega⟩,fun k hk => hk.elim (h3 k) fun e => Nat.lt_of_lt_of_le e hz,hw.trans (h4.mono hw.size)⟩,fun k h5 h6 h7 => hP k h5 (Nat.le_of_not_lt fun e => h7 (.inr e)) fun e => h7 (.inl e),hU⟩
theorem ho_new (id:Int) (hh:Po.HostOk id) (c:Nat) (h1:1≤c) (h2:c≤1048576) (w:World) (hw:Below w0.heap.size w0 w) :
  Calls Tryz.prog 43 #[.int .i64 id,.int .i64 c] w fun e w' => ∃ jh,e=.returned (.tuple #[.pointer (some ⟨jh,0,none⟩),.int .i64 0])∧∃ bd j jx,HE w0 w' (fun k => k<w.heap.size) jh bd j jx ⟨id,0,0,true,Dk.new c,⟨0,false,[]⟩,⟨id,0,0,noB,0,0⟩⟩∧Below w.heap.size w w':=by
 have HD:=Zh (DA.new c w h1 h2)
 have HH:=Zh hh
 obtain ⟨i0,i1⟩:=hh
 have j0:¬ id<0:=by omega
 have j1:¬ id≥4:=by omega
 clear i0 i1 h1 h2
 go_enter Tryz.func43,Tryz.ntmps43
 go_wp2_with fail
 refine HD.out.mono ?_
 rintro e w1 ⟨bd,rfl,hd0⟩
 have hd:=hd0.rebase hw
 obtain ⟨jh,hjh⟩:∃ q,q=w1.heap.size:=⟨_,rfl⟩
 obtain ⟨w2,hw2⟩:∃ y,y=w1.alloc (.cells #[.int .i64 id,.int .i64 0,.int .i64 0,.pointer (some ⟨bd,0,none⟩),.pointer none,.pointer none] 122 (0,0)):=⟨_,rfl⟩
 have hb2:=Zb hw2
 have hk2:=Zk hw2 hjh
 have hd2:=hd.below hb2
 have hz1:=hd0.base.size
 have hz0:=hw.size
 have HOP:=Zh (ho_opens (id:=id) (now:=0) (refused:=0) hd2 hk2 (fun e => by have:=e.2;omega) (by omega) (hd2.openNew rfl rfl) HH.out (Dk.new_load _))
 have HW2:=Zh hw2
 have HJH:=Zh hjh
 have HB1:=Zh hd0.base
 have HB2:=Zh (show Below w.heap.size w w2 from hd0.base.trans (hb2.mono hz1))
 have HZ:=Zh (show w.heap.size≤jh by omega)
 have HZ0:=Zh hz0
 clear hd hd0 hd2 hb2 hk2 hw2 hjh HD hz1 hz0 hw
 go_wp2_with fail
 rw [← HW2.out,← HJH.out]
 refine HOP.out.mono ?_
 rintro e w3 ⟨rfl,j,jx,P3,hg3,hn3,hk3,hp3,hc3⟩
 have hb3:Below w.heap.size w w3:=HB2.out.trans (hc3.below HB2.out.size fun k hk e => by
  rcases e with e | e
  · have:=e.1;omega
  have:=HZ.out;omega)
 have HHE:=Zh (show HE w0 w3 (fun k => k<w.heap.size) jh bd j jx ⟨id,0,0,true,Dk.new c,⟨0,false,[]⟩,⟨id,0,0,noB,0,0⟩⟩ from
  ⟨P3,hn3,hk3,hp3,Nat.le_trans HZ0.out HZ.out,fun k hk => ⟨fun e => by
   rcases hg3 k e with e | e
   · have:=e.1;omega
   have:=HB2.out.size;omega,Nat.lt_of_lt_of_le hk hb3.size,by have:=HZ.out;omega⟩⟩)
 have HB3:=Zh hb3
 clear hg3 hn3 hk3 hp3 hc3 hb3 HOP
 go_wp2_with fail
 refine bodyPost_ret (v:=.tuple #[.pointer (some ⟨jh,0,none⟩),.int .i64 0]) (by simp [results,Tryz.results43,go_sem]) rfl ?_
 exact ⟨jh,rfl,bd,j,jx,HHE.out,HB3.out⟩
theorem ho_log_up (n:HE w0 w K jh bd j jx o) (hu:o.up=true) (he:LEnv w0) (f:Few o.d o.h s o.x) :
  Calls Tryz.prog 49 #[.pointer (some ⟨jh,0,none⟩)] w fun e w' => e=.returned (.tuple #[.int .i64 (firstOf o.h.l:Nat),.int .i64 (sureOf o.h.l s:Nat),.int .i64 (nextOf o.h.l:Nat)])∧Below w.heap.size w w':=by
 have HU:=Zh (ho_up n)
 rw [hu] at HU
 have HTT:=Zh (fun (W:World) (hW:Below w.heap.size w W) => show W.cell? ⟨jh,4,none⟩=some (.pointer (some ⟨j,0,none⟩)) from by
  have:=(n.below hW).cells.2.2.2.2.1
  rw [hu] at this
  exact this)
 have HF:=Zh (fun (W:World) (hW:Below w.heap.size w W) => (n.below hW).first hu f)
 have HSU:=Zh (fun (W:World) (hW:Below w.heap.size w W) => (n.below hW).sure hu he f)
 have HEN:=Zh (fun (W:World) (hW:Below w.heap.size w W) => (n.below hW).end_ hu f)
 obtain ⟨x1,hx1⟩:∃ y,y=w.drew:=⟨_,rfl⟩
 have HB1:=Zh (Zd hx1)
 have hT:=HTT.out x1 HB1.out
 have hS:True:=trivial
 obtain ⟨n1,hn1⟩:∃ n1:Nat,n1=firstOf o.h.l:=⟨_,rfl⟩
 obtain ⟨n2,hn2⟩:∃ n1:Nat,n1=sureOf o.h.l s:=⟨_,rfl⟩
 obtain ⟨n3,hn3⟩:∃ n1:Nat,n1=nextOf o.h.l:=⟨_,rfl⟩
 rw [← hn1] at HF ⊢
 rw [← hn2] at HSU ⊢
 rw [← hn3] at HEN ⊢
 clear n hu he f hn1 hn2 hn3
 go_enter Tryz.func49,Tryz.ntmps49
 go_wp2_with fail
 refine HU.out.mono ?_
 rintro e w1 ⟨rfl,rfl⟩
 clear HU
 go_wp2_with fail
 refine wp_region_two (T:=fun W => W.cell? ⟨jh,4,none⟩=some (.pointer (some ⟨j,0,none⟩))) (S:=fun _ => True) (n:=99) (by kernel_rfl) ?_
 rw [← hx1]
 clear hx1
 refine tk 0 8 hT hS ?_
 refine tk 1 9 hT hS ?_
 try simp only [xq]
 refine tk 2 10 hT hS ?_
 refine tk 3 11 hT hS ?_
 try simp only [xq]
 refine tk 5 13 hT hS ?_
 refine tk 6 14 hT hS ?_
 try simp only [xq]
 refine tk 7 15 hT hS ?_
 refine tk 8 16 hT hS ?_
 try simp only [xq]
 refine tk 10 18 hT hS ?_
 refine tk 11 19 hT hS ?_
 try simp only [xq]
 refine tk 12 20 hT hS ?_
 refine tk 13 21 hT hS ?_
 try simp only [xq]
 refine two_one 4 rfl (by kernel_rfl) ?_
 intro K0 hK0
 go_simp
 refine (HF.out x1 HB1.out).mono ?_
 rintro e w2 ⟨rfl,hb2⟩
 have HB2:=Zh (HB1.out.trans (hb2.mono HB1.out.size))
 have hT3:=HTT.out w2 HB2.out
 refine hK0.out _ _ hT3 (fun _ _ => hS) ?_
 clear hK0 K0
 try simp only [xq]
 clear hT hb2
 have hT:=hT3
 clear hT3
 refine two_one 9 rfl (by kernel_rfl) ?_
 intro K0 hK0
 go_simp
 refine (HSU.out w2 HB2.out).mono ?_
 rintro e w3 ⟨rfl,hb3⟩
 have HB3:=Zh (HB2.out.trans (hb3.mono HB2.out.size))
 have hT3:=HTT.out w3 HB3.out
 refine hK0.out _ _ hT3 (fun _ _ => hS) ?_
 clear hK0 K0
 try simp only [xq]
 clear hT hb3
 have hT:=hT3
 clear hT3
 refine two_one 14 rfl (by kernel_rfl) ?_
 intro K0 hK0
 go_simp
 refine (HEN.out w3 HB3.out).mono ?_
 rintro e w4 ⟨rfl,hb4⟩
 have HB4:=Zh (HB3.out.trans (hb4.mono HB3.out.size))
 have hT3:=HTT.out w4 HB4.out
 refine hK0.out _ _ hT3 (fun _ _ => hS) ?_
 clear hK0 K0
 try simp only [xq]
 clear hT hb4
 have hT:=hT3
 clear hT3
 refine tk 15 2 hT hS ?_
 refine tk 16 3 hT hS ?_
 try simp only [xq]
 refine tk 17 4 hT hS ?_
 try simp only [xq]
 refine two_done (by kernel_rfl) ?_ _
 clear hT HF HSU HEN HTT
 go_wp2_with fail
 refine bodyPost_ret (v:=.tuple #[.int .i64 n1,.int .i64 n2,.int .i64 n3]) (by simp [results,Tryz.results49,go_sem]) rfl ?_
 exact ⟨rfl,HB4.out⟩
theorem ho_log_no (n:HE w0 w K jh bd j jx o) (hu:o.up=false) :
  Calls Tryz.prog 49 #[.pointer (some ⟨jh,0,none⟩)] w fun e w' => e=.returned (.tuple #[.int .i64 0,.int .i64 0,.int .i64 0])∧w=w':=by
 have HU:=Zh (ho_up n)
 rw [hu] at HU
 clear n hu
 go_enter Tryz.func49,Tryz.ntmps49
 go_wp2_with fail
 refine HU.out.mono ?_
 rintro e w1 ⟨rfl,rfl⟩
 clear HU
 go_wp2_with fail
 refine bodyPost_ret (v:=.tuple #[.int .i64 0,.int .i64 0,.int .i64 0]) (by simp [results,Tryz.results49,go_sem]) rfl ?_
 exact ⟨rfl,rfl⟩
end
end Go.Proofs.YtdacanghbepjpaaGreatDoor
namespace Go.Proofs.YtdacanghbepjpaaGreatDoor
open Go.RowKit Go.Maps
open Dsk
set_option maxHeartbeats 4000000 in
theorem mail_any (a:OAct) (id:Int) (w:World) (n:Nat) (kx:Option Addr) (kc:Nat) (hkv:a.kv=.slice kx n kc):Calls Tryz.prog 54 #[.agg (oactC a).toArray,.int .i64 id] w fun e w' => e=.returned (mlV (mailO a id))∧Below w.heap.size w w':=by
 obtain ⟨kd,nd,nn,⟨zt,zi,zp,zs,zh,za,zd,zn⟩,kv,keep,own,ah,af,an,adt⟩:=a
 simp only at hkv
 subst hkv
 unfold mailO mlV mlRow oactC
 simp only
 by_cases hd:adt=noB
 case neg =>
  rw [if_neg hd]
  cases own
  all_goals
   have hem:adt.toList.isEmpty=false:=by
    cases hq:adt.toList.isEmpty with
    | true => exact absurd (noB_of hq) hd
    | false => rfl
   go_enter Tryz.func54,Tryz.ntmps54
   go_wp2_with fail
   first
    | exact bodyPost_ret (v:=.agg #[.int .i64 (-1),.int .i64 7,.string adt]) (by simp [results,Tryz.results54,go_sem]) rfl ⟨rfl,(((Below.refl _ _).alloc (by first | exact Nat.le_refl _ | (simp only [alloc_size];omega)) _).alloc (by simp only [alloc_size];omega) _).alloc (by simp only [alloc_size];omega) _⟩
    | exact bodyPost_ret (v:=.agg #[.int .i64 (-1),.int .i64 id,.string adt]) (by simp [results,Tryz.results54,go_sem]) rfl ⟨rfl,(((Below.refl _ _).alloc (by first | exact Nat.le_refl _ | (simp only [alloc_size];omega)) _).alloc (by simp only [alloc_size];omega) _).alloc (by simp only [alloc_size];omega) _⟩
 case pos =>
 subst hd
 rw [if_pos rfl]
 obtain ⟨ME,hME⟩:∃ ME,ME=(encAck ah af an).1:=⟨_,rfl⟩
 have hno:=noB_is
 by_cases hown:own=true
 case pos =>
  subst hown
  obtain ⟨w3,hw3⟩:∃ y,y=((w.alloc (.cells #[.int .i64 kd,.int .i64 nd,.int .i64 nn,.int .i64 zt,.int .i64 zi,.int .i64 zp,.string zs,.string zh,.int .i64 za,.int .i64 zd,.string zn,.slice kx n kc,.bool true,.int .i64 ah,.int .i64 af,.int .i64 an,.string noB] 95 (0,0))).alloc (.cells #[.int .i64 0,.int .i64 0,.string ⟨#[]⟩] 100 (0,0))).alloc (.cells #[.int .i64 (-1),.int .i64 id,.string noB] 100 (0,0)):=⟨_,rfl⟩
  have hb3:Below w.heap.size w w3:=by rw [hw3];exact (((Below.refl _ _).alloc (by first | exact Nat.le_refl _ | (simp only [alloc_size];omega)) _).alloc (by simp only [alloc_size];omega) _).alloc (by simp only [alloc_size];omega) _
  have hq1:Blk w3 (w.heap.size+1) 100 #[.int .i64 0,.int .i64 0,.string ⟨#[]⟩]:=by
   have:=Blk.alloc_new (w.alloc (.cells #[.int .i64 kd,.int .i64 nd,.int .i64 nn,.int .i64 zt,.int .i64 zi,.int .i64 zp,.string zs,.string zh,.int .i64 za,.int .i64 zd,.string zn,.slice kx n kc,.bool true,.int .i64 ah,.int .i64 af,.int .i64 an,.string noB] 95 (0,0))) 100 #[.int .i64 0,.int .i64 0,.string ⟨#[]⟩]
   rw [alloc_size] at this
   rw [hw3]
   exact this.below ((Below.refl _ _).alloc (Nat.le_refl _) _)
  have hq2:Blk w3 (w.heap.size+1+1) 100 #[.int .i64 (-1),.int .i64 id,.string noB]:=by
   have:=Blk.alloc_new ((w.alloc (.cells #[.int .i64 kd,.int .i64 nd,.int .i64 nn,.int .i64 zt,.int .i64 zi,.int .i64 zp,.string zs,.string zh,.int .i64 za,.int .i64 zd,.string zn,.slice kx n kc,.bool true,.int .i64 ah,.int .i64 af,.int .i64 an,.string noB] 95 (0,0))).alloc (.cells #[.int .i64 0,.int .i64 0,.string ⟨#[]⟩] 100 (0,0))) 100 #[.int .i64 (-1),.int .i64 id,.string noB]
   rw [alloc_size,alloc_size] at this
   rw [hw3]
   exact this
  have hen:=encAck_any ah af an w3
  rw [← hME] at hen
  unfold ackV at hen
  have HEN:=Zh hen
  have HW3:=Zh hw3
  have HB3:=Zh hb3
  have HQ1:=Zh hq1
  have HQ2:=Zh hq2
  have HME:=Zh hME
  clear hw3 hb3 hq1 hq2 hen hME
  go_enter Tryz.func54,Tryz.ntmps54
  go_wp2_with fail
  rw [← HW3.out]
  refine HEN.out.mono ?_
  rintro e w4 ⟨rfl,hb4⟩
  have k1:=HQ1.out.below hb4
  have k2:=HQ2.out.below hb4
  have a0:=k1.cell 0
  have a1:=k1.cell 1
  have a2:=k1.cell 2
  have fa0:=k1.free 0
  have fa1:=k1.free 1
  have fa2:=k1.free 2
  have d0:=k2.cell 0
  have d1:=k2.cell 1
  have d2:=k2.cell 2
  have fd0:=k2.free 0
  have fd1:=k2.free 1
  have fd2:=k2.free 2
  have e1:=(k2.set 2 (.string ME))
  have e10:=e1.cell 0
  have e11:=e1.cell 1
  have e12:=e1.cell 2
  have o1:=k1.set_ot (w.heap.size+1+1) 2 (.string ME) (by omega)
  have o10:=o1.cell 0
  have o11:=o1.cell 1
  have o12:=o1.cell 2
  have fo0:=o1.free 0
  have fo1:=o1.free 1
  have fo2:=o1.free 2
  have r1:=((o1.set 0 (.int .i64 (-1))).set 1 (.int .i64 id)).set 2 (.string ME)
  have r10:=r1.cell 0
  have r11:=r1.cell 1
  have r12:=r1.cell 2
  simp only [List.getElem?_toArray,List.getElem?_cons_zero,List.getElem?_cons_succ,List.setIfInBounds_toArray,List.set_cons_zero,List.set_cons_succ] at a0 a1 a2 d0 d1 d2 e10 e11 e12 o10 o11 o12 r10 r11 r12
  have hb4':Below w.heap.size w w4:=HB3.out.trans (hb4.mono HB3.out.size)
  have HFIN:=Zh (show Below w.heap.size w ((((w4.setCell ⟨w.heap.size+1+1,2,none⟩ (.string ME)).setCell ⟨w.heap.size+1,0,none⟩ (.int .i64 (-1))).setCell ⟨w.heap.size+1,1,none⟩ (.int .i64 id)).setCell ⟨w.heap.size+1,2,none⟩ (.string ME)) from
   (((hb4'.setCell (p:=⟨w.heap.size+1+1,2,none⟩) (by show w.heap.size≤w.heap.size+1+1;omega) _).setCell (p:=⟨w.heap.size+1,0,none⟩) (by show w.heap.size≤w.heap.size+1;omega) _).setCell (p:=⟨w.heap.size+1,1,none⟩) (by show w.heap.size≤w.heap.size+1;omega) _).setCell (p:=⟨w.heap.size+1,2,none⟩) (by show w.heap.size≤w.heap.size+1;omega) _)
  clear k1 k2 e1 o1 r1 hb4 hb4' HEN HQ1 HQ2
  go_wp2_with fail
  rw [← HME.out]
  exact bodyPost_ret (v:=.agg #[.int .i64 (-1),.int .i64 id,.string ME]) (by simp [results,Tryz.results54,go_sem,r10,r11,r12]) rfl ⟨rfl,HFIN.out⟩
 case neg =>
 have hof:own=false:=by simpa using hown
 subst hof
 clear hown
 obtain ⟨w3,hw3⟩:∃ y,y=((w.alloc (.cells #[.int .i64 kd,.int .i64 nd,.int .i64 nn,.int .i64 zt,.int .i64 zi,.int .i64 zp,.string zs,.string zh,.int .i64 za,.int .i64 zd,.string zn,.slice kx n kc,.bool false,.int .i64 ah,.int .i64 af,.int .i64 an,.string noB] 95 (0,0))).alloc (.cells #[.int .i64 0,.int .i64 0,.string ⟨#[]⟩] 100 (0,0))).alloc (.cells #[.int .i64 (-1),.int .i64 7,.string noB] 100 (0,0)):=⟨_,rfl⟩
 have hb3:Below w.heap.size w w3:=by rw [hw3];exact (((Below.refl _ _).alloc (by first | exact Nat.le_refl _ | (simp only [alloc_size];omega)) _).alloc (by simp only [alloc_size];omega) _).alloc (by simp only [alloc_size];omega) _
 have hq1:Blk w3 (w.heap.size+1) 100 #[.int .i64 0,.int .i64 0,.string ⟨#[]⟩]:=by
  have:=Blk.alloc_new (w.alloc (.cells #[.int .i64 kd,.int .i64 nd,.int .i64 nn,.int .i64 zt,.int .i64 zi,.int .i64 zp,.string zs,.string zh,.int .i64 za,.int .i64 zd,.string zn,.slice kx n kc,.bool false,.int .i64 ah,.int .i64 af,.int .i64 an,.string noB] 95 (0,0))) 100 #[.int .i64 0,.int .i64 0,.string ⟨#[]⟩]
  rw [alloc_size] at this
  rw [hw3]
  exact this.below ((Below.refl _ _).alloc (Nat.le_refl _) _)
 have hq2:Blk w3 (w.heap.size+1+1) 100 #[.int .i64 (-1),.int .i64 7,.string noB]:=by
  have:=Blk.alloc_new ((w.alloc (.cells #[.int .i64 kd,.int .i64 nd,.int .i64 nn,.int .i64 zt,.int .i64 zi,.int .i64 zp,.string zs,.string zh,.int .i64 za,.int .i64 zd,.string zn,.slice kx n kc,.bool false,.int .i64 ah,.int .i64 af,.int .i64 an,.string noB] 95 (0,0))).alloc (.cells #[.int .i64 0,.int .i64 0,.string ⟨#[]⟩] 100 (0,0))) 100 #[.int .i64 (-1),.int .i64 7,.string noB]
  rw [alloc_size,alloc_size] at this
  rw [hw3]
  exact this
 have hen:=encAck_any ah af an w3
 rw [← hME] at hen
 unfold ackV at hen
 have HEN:=Zh hen
 have HW3:=Zh hw3
 have HB3:=Zh hb3
 have HQ1:=Zh hq1
 have HQ2:=Zh hq2
 have HME:=Zh hME
 clear hw3 hb3 hq1 hq2 hen hME
 go_enter Tryz.func54,Tryz.ntmps54
 go_wp2_with fail
 rw [← HW3.out]
 refine HEN.out.mono ?_
 rintro e w4 ⟨rfl,hb4⟩
 have k1:=HQ1.out.below hb4
 have k2:=HQ2.out.below hb4
 have a0:=k1.cell 0
 have a1:=k1.cell 1
 have a2:=k1.cell 2
 have fa0:=k1.free 0
 have fa1:=k1.free 1
 have fa2:=k1.free 2
 have d0:=k2.cell 0
 have d1:=k2.cell 1
 have d2:=k2.cell 2
 have fd0:=k2.free 0
 have fd1:=k2.free 1
 have fd2:=k2.free 2
 have e1:=(k2.set 2 (.string ME))
 have e10:=e1.cell 0
 have e11:=e1.cell 1
 have e12:=e1.cell 2
 have o1:=k1.set_ot (w.heap.size+1+1) 2 (.string ME) (by omega)
 have o10:=o1.cell 0
 have o11:=o1.cell 1
 have o12:=o1.cell 2
 have fo0:=o1.free 0
 have fo1:=o1.free 1
 have fo2:=o1.free 2
 have r1:=((o1.set 0 (.int .i64 (-1))).set 1 (.int .i64 7)).set 2 (.string ME)
 have r10:=r1.cell 0
 have r11:=r1.cell 1
 have r12:=r1.cell 2
 simp only [List.getElem?_toArray,List.getElem?_cons_zero,List.getElem?_cons_succ,List.setIfInBounds_toArray,List.set_cons_zero,List.set_cons_succ] at a0 a1 a2 d0 d1 d2 e10 e11 e12 o10 o11 o12 r10 r11 r12
 have hb4':Below w.heap.size w w4:=HB3.out.trans (hb4.mono HB3.out.size)
 have HFIN:=Zh (show Below w.heap.size w ((((w4.setCell ⟨w.heap.size+1+1,2,none⟩ (.string ME)).setCell ⟨w.heap.size+1,0,none⟩ (.int .i64 (-1))).setCell ⟨w.heap.size+1,1,none⟩ (.int .i64 7)).setCell ⟨w.heap.size+1,2,none⟩ (.string ME)) from
  (((hb4'.setCell (p:=⟨w.heap.size+1+1,2,none⟩) (by show w.heap.size≤w.heap.size+1+1;omega) _).setCell (p:=⟨w.heap.size+1,0,none⟩) (by show w.heap.size≤w.heap.size+1;omega) _).setCell (p:=⟨w.heap.size+1,1,none⟩) (by show w.heap.size≤w.heap.size+1;omega) _).setCell (p:=⟨w.heap.size+1,2,none⟩) (by show w.heap.size≤w.heap.size+1;omega) _)
 clear k1 k2 e1 o1 r1 hb4 hb4' HEN HQ1 HQ2
 go_wp2_with fail
 rw [← HME.out]
 exact bodyPost_ret (v:=.agg #[.int .i64 (-1),.int .i64 7,.string ME]) (by simp [results,Tryz.results54,go_sem,r10,r11,r12]) rfl ⟨rfl,HFIN.out⟩
theorem mail_size (a:OAct) (id:Int) (h:a.data.size≤maxLen):(mailO a id).data.size≤maxLen:=by
 unfold mailO
 simp only
 split
 · unfold encAck
   split
   · exact ackB_size (by assumption)
   show (0:Nat)≤maxLen;exact Nat.zero_le _
 exact h
section
variable {w0 w w':World} {P S K:Nat→Prop} {jh bd j jx s B:Nat} {o:Hs} {a:OAct}
end
end Go.Proofs.YtdacanghbepjpaaGreatDoor
