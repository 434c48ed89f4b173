/- A host's log: a record that may not be; a record behind the last segment's: walked. -/
import Derived.Test.YtdacanghbepjpaaGreatDoorHlS
import Derived.Test.YtdacanghbepjpaaGreatDoorSpC
namespace Go.Proofs.YtdacanghbepjpaaGreatDoor
set_option linter.unusedSimpArgs false
set_option linter.unusedVariables false
set_option maxRecDepth 100000
open Go.RowKit Go.Maps
open Dsk
section
variable {w0 w w':World} {X H S:Nat→Prop} {v lv:Value} {d d':Dk} {j B:Nat} {h:Hl} {vs:List SegV} {l:List Sg}
set_option maxHeartbeats 4000000 in
theorem happend_bad (h0:HS w0 X H w v d j h) (hrun:h.runs d) (he:LEnv w0) (hbd:SgsBnd h.l) (x:Sp.Span) (hs1:x.service.size≤maxLen) (hs2:x.host.size≤maxLen) (hs3:x.note.size≤maxLen) (hm:¬ Sp.May x) :
  Calls Tryz.prog 20 #[.pointer (some ⟨j,0,none⟩),spV x] w fun e w' => e=.returned (.int .i64 (appP d h x).1)∧HPost w0 X H w v (appP d h x).2.2 j (appP d h x).2.1 w':=by
 obtain ⟨lv,vs,ho⟩:=h0.open_
 obtain ⟨bd,rfl⟩:=h0.ptr
 obtain ⟨q,hq⟩:∃ q,q=w.heap.size:=⟨_,rfl⟩
 obtain ⟨wa,hwa⟩:∃ wa,wa=w.alloc (.cells #[.int .i64 x.trace,.int .i64 x.id,.int .i64 x.parent,.string x.service,.string x.host,.int .i64 x.start,.int .i64 x.dur,.string x.note] 47 (0,0)):=⟨_,rfl⟩
 have hba:Below w.heap.size w wa:=by rw [hwa];exact (Below.refl _ _).alloc (Nat.le_refl _) _
 have HQa:=Lib.hid (show Blk wa q 47 #[.int .i64 x.trace,.int .i64 x.id,.int .i64 x.parent,.string x.service,.string x.host,.int .i64 x.start,.int .i64 x.dur,.string x.note] by rw [hwa,hq];exact Blk.alloc_new w _ _)
 obtain ⟨X1,hX1⟩:∃ X1,X1=Also X w wa:=⟨_,rfl⟩
 have HOa:=Lib.hid (show HO w0 X1 H wa (.pointer (some ⟨bd,0,none⟩)) d j h lv vs by rw [hX1];exact ho.addX hba)
 have HXX:=Lib.hid (show ∀ k,X k→X1 k by rw [hX1];exact fun k e => .inl e)
 have HHX:=Lib.hid ho.sub
 have HXL:=Lib.hid ho.live.lt
 have HQX:=Lib.hid (show X1 q∧¬ H q from ⟨by rw [hX1,hq];exact .inr ⟨Nat.le_refl _,by rw [hwa];simp⟩,fun e => by have:=(ho.new q e).2;omega⟩)
 have HQW:=Lib.hid (show w.heap.size≤q from by omega)
 have HCa:=Lib.hid (HK.below (X:=X) (H:=H) hba)
 have HWA:=Lib.hid hwa
 have HR:=Lib.hid (hruns_any HOa.out.hs)
 rw [if_pos hrun] at HR
 have HEN:=Lib.hid (fun W:World => hencode_any (w:=W) x hs1 hs2 hs3)
 have HBZ:=Lib.hid (show w0.heap.size≤w.heap.size from ho.live.size)
 have hvs9:vs.length≤1000000:=by rw [ho.rows.len];exact hbd.many
 have hq2:spQ x=([],2):=by unfold spQ;exact if_neg hm
 rw [hq2] at HEN
 have HV:=Lib.hid (show appP d h x=(2,h,d) by unfold appP;rw [if_pos hm])
 rw [HV.out]
 obtain ⟨tr,id,pa,se,ho',sa,du,no⟩:=x
 unfold spV at HEN ⊢
 simp only at HEN HQa HWA ⊢
 clear h0 hrun he hbd hs1 hs2 hs3 hm ho hwa hba hX1 hq2 hvs9
 go_enter Tryz.func20,Tryz.ntmps20
 go_wp2_with fail
 rw [← HWA.out,← hq]
 clear hq
 refine HR.out.mono ?_
 rintro e w1 ⟨rfl,hb1⟩
 have HO1:=Lib.hid (HOa.out.below hb1)
 have HC1:=Lib.hid (HCa.out.trans (HK.below hb1))
 have HQ1:=Lib.hid (HQa.out.below hb1)
 clear hb1
 have a:=HQ1.out.cell 0
 have a1:=HQ1.out.cell 1
 have a2:=HQ1.out.cell 2
 have a3:=HQ1.out.cell 3
 have a4:=HQ1.out.cell 4
 have a5:=HQ1.out.cell 5
 have a6:=HQ1.out.cell 6
 have a7:=HQ1.out.cell 7
 simp at a a1 a2 a3 a4 a5 a6 a7
 go_wp2_with fail
 refine (HEN.out w1).mono ?_
 rintro e w2 ⟨rfl,hb2⟩
 have HO2:=Lib.hid (HO1.out.below hb2)
 have HC2:=Lib.hid (HC1.out.trans (HK.below hb2))
 clear hb2 a a1 a2 a3 a4 a5 a6 a7
 go_wp2_with fail
 go_ret
 exact ⟨rfl,HPost.same (HO2.out.dropX HXX.out HHX.out).hs HC2.out⟩
set_option maxHeartbeats 64000000 in
theorem happend_in (h0:HS w0 X H w v d j h) (hrun:h.runs d) (he:LEnv w0) (hbd:SgsBnd h.l) (x:Sp.Span) (hs1:x.service.size≤maxLen) (hs2:x.host.size≤maxLen) (hs3:x.note.size≤maxLen) (hm:Sp.May x)
  {init:List Sg} {a:Sg} (hl:h.l=init++[a]) (h16:a.spans.length<16) :
  Calls Tryz.prog 20 #[.pointer (some ⟨j,0,none⟩),spV x] w fun e w' => e=.returned (.int .i64 (appP d h x).1)∧HPost w0 X H w v (appP d h x).2.2 j (appP d h x).2.1 w':=by
 obtain ⟨lv,vs,ho⟩:=h0.open_
 obtain ⟨bd,rfl⟩:=h0.ptr
 obtain ⟨q,hq⟩:∃ q,q=w.heap.size:=⟨_,rfl⟩
 obtain ⟨wa,hwa⟩:∃ wa,wa=w.alloc (.cells #[.int .i64 x.trace,.int .i64 x.id,.int .i64 x.parent,.string x.service,.string x.host,.int .i64 x.start,.int .i64 x.dur,.string x.note] 47 (0,0)):=⟨_,rfl⟩
 have hba:Below w.heap.size w wa:=by rw [hwa];exact (Below.refl _ _).alloc (Nat.le_refl _) _
 have HQa:=Lib.hid (show Blk wa q 47 #[.int .i64 x.trace,.int .i64 x.id,.int .i64 x.parent,.string x.service,.string x.host,.int .i64 x.start,.int .i64 x.dur,.string x.note] by rw [hwa,hq];exact Blk.alloc_new w _ _)
 obtain ⟨X1,hX1⟩:∃ X1,X1=Also X w wa:=⟨_,rfl⟩
 have HOa:=Lib.hid (show HO w0 X1 H wa (.pointer (some ⟨bd,0,none⟩)) d j h lv vs by rw [hX1];exact ho.addX hba)
 have HXX:=Lib.hid (show ∀ k,X k→X1 k by rw [hX1];exact fun k e => .inl e)
 have HHX:=Lib.hid ho.sub
 have HXL:=Lib.hid ho.live.lt
 have HQX:=Lib.hid (show X1 q∧¬ H q from ⟨by rw [hX1,hq];exact .inr ⟨Nat.le_refl _,by rw [hwa];simp⟩,fun e => by have:=(ho.new q e).2;omega⟩)
 have HQW:=Lib.hid (show w.heap.size≤q from by omega)
 have HCa:=Lib.hid (HK.below (X:=X) (H:=H) hba)
 have HWA:=Lib.hid hwa
 have HR:=Lib.hid (hruns_any HOa.out.hs)
 rw [if_pos hrun] at HR
 have HEN:=Lib.hid (fun W:World => hencode_any (w:=W) x hs1 hs2 hs3)
 have HBZ:=Lib.hid (show w0.heap.size≤w.heap.size from ho.live.size)
 have hvs9:vs.length≤1000000:=by rw [ho.rows.len];exact hbd.many
 have hq2:spQ x=(Sp.enc x,0):=by unfold spQ;exact if_pos hm
 rw [hq2] at HEN
 have hel:=Sp.enc_len hm
 obtain ⟨E,hE⟩:∃ E:ByteArray,E=⟨(Sp.enc x).toArray⟩:=⟨_,rfl⟩
 have hEz:E.size=(Sp.enc x).length:=by rw [hE];exact List.size_toArray
 have hEd:E.data.toList=Sp.enc x:=by rw [hE]
 have HFR:=Lib.hid (fun W:World => frame_short E W (by omega))
 rw [hEd] at HFR
 simp only at HEN
 rw [← hE] at HEN
 obtain ⟨F,hF⟩:∃ F:ByteArray,F=⟨(frm x).toArray⟩:=⟨_,rfl⟩
 have hF2:(⟨(Frm.frame (Sp.enc x)).toArray⟩:ByteArray)=F:=by rw [hF];rfl
 rw [hF2] at HFR
 have hFd:F.data.toList=frm x:=by rw [hF]
 have hFl:=frm_len hm
 have hFz:F.size=(frm x).length:=by rw [hF];exact List.size_toArray
 obtain ⟨g,c,sx,sc,ex,ec,hlv,hlp,_,_,hi,hvs⟩:=ho.last hl
 have HL:=Lib.hid (fun (W:World) (D:Dk) (hh:Hl) (e:hh.l=h.l) (hW:HO w0 X1 H W (.pointer (some ⟨bd,0,none⟩)) D j hh lv vs) => by
  have:=hlast_any hW.blk hW.rows (by rw [e];exact hbd.many)
  rw [e,hlp] at this
  exact this)
 obtain ⟨fn,xs⟩:=a
 simp only at h16 hvs
 have hf9:fn≤999999999:=hbd.first ⟨fn,xs⟩ (by rw [hl];simp)
 have HBS:=Lib.hid (show (∀ y∈xs,Sp.May y)∧xs.length≤1000000 from ⟨hbd.may ⟨fn,xs⟩ (by rw [hl];simp),hbd.len ⟨fn,xs⟩ (by rw [hl];simp)⟩)
 have HNM:=Lib.hid (fun (W:World) (hW:Below w0.heap.size w0 W) => segName_any (he.below hW) hf9 sx ex xs.length sc xs.length ec)
 unfold segVal at HNM
 obtain ⟨z,hz⟩:∃ z,z=d.append (ln fn) (frm x):=⟨_,rfl⟩
 obtain ⟨r,dd⟩:=z
 have hap:appP d h x=if r≠0 then (r,h.told r,dd) else (0,{ h with l:=pushL h.l x },dd):=by
  have hg:h.l.getLast?=some ⟨fn,xs⟩:=by rw [hl,getLast_snoc]
  unfold appP
  rw [if_neg (fun e => e hm),hg]
  simp only [if_pos h16,← hz]
 have HAPP:=Lib.hid hap
 have HPU:=Lib.hid (show pushL h.l x=init++[⟨fn,xs++[x]⟩] by rw [hl,pushL_snoc])
 have HAP:=Lib.hid (fun (W:World) (hW:Live w0 X1 W (.pointer (some ⟨bd,0,none⟩)) d) => hW.appendK (lnB fn) F (lnB_data _) hFd hz.symm (by have:=lnB_size (n:=fn) (by omega);omega) (by unfold maxLen;omega))
 have HTC:=Lib.hid (fun (W:World) (D:Dk) (hh:Hl) (y:HO w0 X1 H W (.pointer (some ⟨bd,0,none⟩)) D j hh lv vs) => by
  have:=y.cells hlv init.length hi
  rw [hvs] at this
  exact this)
 have hll:h.l=init++[⟨fn,xs⟩]∧init.length=init.length∧lv=.slice (some ⟨g,0,none⟩) (init.length+1) c∧∃ hi:init.length<vs.length,vs[init.length]=⟨fn,.slice sx xs.length sc,.slice ex xs.length ec⟩:=⟨hl,rfl,hlv,hi,hvs⟩
 have HFE:=Lib.hid (show ((frm x).length:Int)=(F.size:Int) by rw [hFz])
 have HFS:=Lib.hid (show F.size≤120 by omega)
 obtain ⟨n,hn⟩:∃ n,n=init.length:=⟨_,rfl⟩
 obtain ⟨sn,hsn⟩:∃ sn,sn=xs.length:=⟨_,rfl⟩
 have HLL:=Lib.hid (show h.l=init++[⟨fn,xs⟩]∧n=init.length∧lv=.slice (some ⟨g,0,none⟩) (n+1) c∧∃ hi:n<vs.length,vs[n]=⟨fn,.slice sx sn sc,.slice ex sn ec⟩ by subst hn;subst hsn;exact hll)
 simp only [← hn,← hsn] at HL HNM HAP HTC
 have hs16:(sn:Int)<16:=by omega
 have HXA:=Lib.hid (show (∀ k,X k→X1 k)∧(∀ (x0:World) k,H k→H k∨(w.heap.size≤k∧k<x0.heap.size))∧(∀ k,H k→H k) from ⟨HXX.out,fun _ k e => .inl e,fun k e => e⟩)
 have HQ2:=HQX
 obtain ⟨tr,id,pa,se,ho',sa,du,no⟩:=x
 unfold spV at HEN ⊢
 simp only at HEN HQa HWA ⊢
 clear h0 hrun he hbd hs1 hs2 hs3 hm ho hwa hba hX1 hq2 hvs9 hE hEz hEd hel hF hF2 hFd hFl hFz hl hlv hlp hi hvs h16 hf9 hz hap hll hn hsn
 go_enter Tryz.func20,Tryz.ntmps20
 go_wp2_with fail
 rw [← HWA.out,← hq]
 clear hq
 refine HR.out.mono ?_
 rintro e w1 ⟨rfl,hb1⟩
 have HO1:=Lib.hid (HOa.out.below hb1)
 have HC1:=Lib.hid (HCa.out.trans (HK.below hb1))
 have HQ1:=Lib.hid (HQa.out.below hb1)
 clear hb1
 have a:=HQ1.out.cell 0
 have a1:=HQ1.out.cell 1
 have a2:=HQ1.out.cell 2
 have a3:=HQ1.out.cell 3
 have a4:=HQ1.out.cell 4
 have a5:=HQ1.out.cell 5
 have a6:=HQ1.out.cell 6
 have a7:=HQ1.out.cell 7
 simp at a a1 a2 a3 a4 a5 a6 a7
 go_wp2_with fail
 refine (HEN.out w1).mono ?_
 rintro e w2 ⟨rfl,hb2⟩
 have HO2:=Lib.hid (HO1.out.below hb2)
 have HC2:=Lib.hid (HC1.out.trans (HK.below hb2))
 have HQ2':=Lib.hid (HQ1.out.below hb2)
 clear hb2 a a1 a2 a3 a4 a5 a6 a7
 go_wp2_with fail
 refine (HFR.out w2).mono ?_
 rintro e w3 ⟨rfl,hb3⟩
 have HO3:=Lib.hid (HO2.out.below hb3)
 have HC3:=Lib.hid (HC2.out.trans (HK.below hb3))
 have HQ3:=Lib.hid (HQ2'.out.below hb3)
 clear hb3
 go_wp2_with fail
 refine (HL.out w3 _ _ rfl HO3.out).mono ?_
 rintro e w4 ⟨rfl,hb4⟩
 have HO4:=Lib.hid (HO3.out.below hb4)
 have HC4:=Lib.hid (HC3.out.trans (HK.below hb4))
 have HQ4:=Lib.hid (HQ3.out.below hb4)
 clear hb4
 obtain ⟨_,_,p1,_⟩:=HTC.out w4 _ _ HO4.out
 go_wp2_with fail
 clear p1
 refine wp_region_two (T:=fun W => W.cell? ⟨j,0,none⟩=some (.pointer (some ⟨bd,0,none⟩))∧W.cell? ⟨g,n*3,none⟩=some (.int .i64 fn)∧W.cell? ⟨g,n*3+1,none⟩=some (.slice sx sn sc)∧W.cell? ⟨g,n*3+2,none⟩=some (.slice ex sn ec)) (S:=fun _ => True) (n:=99) (by kernel_rfl) ?_
 obtain ⟨y1,hy1⟩:∃ y1,y1=(w4).drew:=⟨_,rfl⟩
 rw [← hy1]
 have hby:Below (w4).heap.size w4 y1:=by rw [hy1];exact (Below.refl _ _).drew
 have HOy1:=Lib.hid (HO.below HO4.out hby)
 have HCy1:=Lib.hid (HK.trans HC4.out (HK.below hby))
 have HQy1:=Lib.hid (Blk.below HQ4.out hby)
 have hS:True:=trivial
 have hT:=HTC.out y1 _ _ HOy1.out
 clear hy1 hby
 refine tk 0 44 hT hS ?_
 refine tk 1 45 hT hS ?_
 refine tk 2 46 hT hS ?_
 refine tk 3 47 hT hS ?_
 refine tk 4 48 hT hS ?_
 refine tk 5 49 hT hS ?_
 refine tk 6 50 hT hS ?_
 refine tk 7 51 hT hS ?_
 refine tk 9 53 hT hS ?_
 try simp only [xq]
 refine two_one 8 rfl (by kernel_rfl) ?_
 intro K hK
 go_simp
 refine (HNM.out y1 HOy1.out.live.below).mono ?_
 rintro e y2 ⟨rfl,hbz⟩
 have HOy2:=Lib.hid (HO.below HOy1.out hbz)
 have HCy2:=Lib.hid (HK.trans HCy1.out (HK.below hbz))
 have HQy2:=Lib.hid (Blk.below HQy1.out hbz)
 have hT1:=HTC.out y2 _ _ HOy2.out
 refine hK.out _ _ hT1 (fun _ _ => hS) ?_
 clear hK K hT hbz
 have hT:=hT1
 clear hT1
 try simp only [xq]
 refine two_one 10 rfl (by kernel_rfl) ?_
 intro K hK
 go_simp
 refine (HAP.out y2 HOy2.out.live).mono ?_
 rintro e y3 ⟨rfl,hlz,hkz⟩
 have HOy3:=Lib.hid (HO.turn HOy2.out hlz hkz)
 have HCy3:=Lib.hid (HK.trans HCy2.out (HK.wide HXX.out (HK.keeps hkz)))
 have HQy3:=Lib.hid (Blk.chg HQy2.out hkz (fun e => e HQX.out.1))
 have hT1:=HTC.out y3 _ _ HOy3.out
 refine hK.out _ _ hT1 (fun _ _ => hS) ?_
 clear hK K hT hlz hkz
 have hT:=hT1
 clear hT1
 try simp only [xq]
 refine two_one 11 rfl (by kernel_rfl) ?_
 intro K hK
 go_simp
 refine (hdoes_at HOy3.out _).mono ?_
 rintro e y4 ⟨rfl,hoz,hkz⟩
 have HOy4:=Lib.hid hoz
 have HCy4:=Lib.hid (HK.trans HCy3.out (HK.wide HXX.out hkz))
 have HQy4:=Lib.hid (Blk.chg HQy3.out hkz (fun e => e.elim (fun e => e HQX.out.1) HQX.out.2))
 have hT1:=HTC.out y4 _ _ HOy4.out
 refine hK.out _ _ hT1 (fun _ _ => hS) ?_
 clear hK K hT hoz hkz
 have hT:=hT1
 clear hT1
 try simp only [xq]
 refine tk 12 7 hT hS ?_
 try simp only [xq]
 refine two_done (by kernel_rfl) ?_ _
 clear hT hS
 by_cases hr0:r=0
 case neg =>
  have t1:(r == 0)=false:=beq_eq_false_iff_ne.2 hr0
  have HV:=Lib.hid (HAPP.out.trans (if_pos hr0))
  go_wp2_with fail
  go_ret
  rw [HV.out]
  exact ⟨rfl,HPost.same (HOy4.out.dropX HXX.out HHX.out).hs HCy4.out⟩
 case pos =>
  subst hr0
  have HV:=Lib.hid (HAPP.out.trans (if_neg (by simp)))
  rw [HPU.out] at HV
  have HO5:=Lib.hid (show HO w0 X1 H y4 (.pointer (some ⟨bd,0,none⟩)) dd j h lv vs by have:=HOy4.out;rw [told_zero] at this;exact this)
  go_wp2_with fail
  refine (HL.out y4 _ _ rfl HO5.out).mono ?_
  rintro e w5 ⟨rfl,hb5⟩
  have HO6:=Lib.hid (HO5.out.below hb5)
  have HC6:=Lib.hid (HCy4.out.trans (HK.below hb5))
  have HQ6:=Lib.hid (HQy4.out.below hb5)
  clear hb5
  go_wp2_with fail
  obtain ⟨x0,hx0⟩:∃ x0,x0=(w5).drew:=⟨_,rfl⟩
  have hb01:Below (w5).heap.size w5 x0:=by rw [hx0];exact (Below.refl _ _).drew
  have HO0:=Lib.hid (HO.below HO6.out hb01)
  have HC0:=Lib.hid (HK.trans HC6.out (HK.below hb01))
  have HQ0:=Lib.hid (Blk.below HQ6.out hb01)
  have HBZ:=Lib.hid (show w0.heap.size≤x0.heap.size from HO0.out.live.size)
  obtain ⟨hll,hnn,hlv,hii,hvs⟩:=HLL.out
  have hsg:SegAt w0.heap.size x0 ⟨fn,.slice sx sn sc,.slice ex sn ec⟩ ⟨fn,xs⟩:=by
   have h5:=HO0.out.rows.each n hii (by rw [hll,hnn];simp)
   rw [hvs] at h5
   have e5:(h.l)[n]'(by rw [hll,hnn];simp)=⟨fn,xs⟩:=by simp [hll,hnn]
   rw [e5] at h5
   exact h5
  have HPx0:=Lib.hid (show Pend w0 x0 x0 (.slice sx sn sc) (.slice ex sn ec) xs ⟨tr,id,pa,se,ho',sa,du,no⟩ none none from Pend.start hsg.spans hsg.ends)
  have HSV:=Lib.hid (fun k (hk:(Value.slice sx sn sc).ownBlock=some k) => (OwnRow.lt hsg.spans k hk).2)
  have HEV:=Lib.hid (fun k (hk:(Value.slice ex sn ec).ownBlock=some k) => (hsg.ends.lt' k hk).2)
  have HTT:=Lib.hid (fun (V:World) (hV:Chg (fun k => (Value.slice sx sn sc).ownBlock=some k∨(Value.slice ex sn ec).ownBlock=some k) x0 V) => show V.cell? ⟨q,0,none⟩=some (.int .i64 tr)∧V.cell? ⟨q,1,none⟩=some (.int .i64 id)∧V.cell? ⟨q,2,none⟩=some (.int .i64 pa)∧V.cell? ⟨q,3,none⟩=some (.string se)∧V.cell? ⟨q,4,none⟩=some (.string ho')∧V.cell? ⟨q,5,none⟩=some (.int .i64 sa)∧V.cell? ⟨q,6,none⟩=some (.int .i64 du)∧V.cell? ⟨q,7,none⟩=some (.string no) from by
   have k:=HQ0.out.chg hV (fun e => HQ2.out.2 (HO0.out.inSeg hii hvs e))
   exact ⟨k.cell 0,k.cell 1,k.cell 2,k.cell 3,k.cell 4,k.cell 5,k.cell 6,k.cell 7⟩)
  have HSS:=Lib.hid (fun (V:World) (hV:Chg (fun k => (Value.slice sx sn sc).ownBlock=some k∨(Value.slice ex sn ec).ownBlock=some k) x0 V) => (HO0.out.still hlv hii hvs hV).1)
  have HFZ:=Lib.hid (fun (V:World) (hV:Chg (fun k => (Value.slice sx sn sc).ownBlock=some k∨(Value.slice ex sn ec).ownBlock=some k) x0 V) => (HO0.out.still hlv hii hvs hV).2)
  have HTS:=Lib.hid (fun (V V2:World) (hV:Chg (fun k => (Value.slice sx sn sc).ownBlock=some k∨(Value.slice ex sn ec).ownBlock=some k) x0 V) (hV2:Chg (fun k => k=g) V V2) => show V2.cell? ⟨q,0,none⟩=some (.int .i64 tr)∧V2.cell? ⟨q,1,none⟩=some (.int .i64 id)∧V2.cell? ⟨q,2,none⟩=some (.int .i64 pa)∧V2.cell? ⟨q,3,none⟩=some (.string se)∧V2.cell? ⟨q,4,none⟩=some (.string ho')∧V2.cell? ⟨q,5,none⟩=some (.int .i64 sa)∧V2.cell? ⟨q,6,none⟩=some (.int .i64 du)∧V2.cell? ⟨q,7,none⟩=some (.string no) from by
   have k:=(HQ0.out.chg hV (fun e => HQ2.out.2 (HO0.out.inSeg hii hvs e))).chg hV2 (fun e => HQ2.out.2 (HO0.out.inH q (.inr (.inl (by rw [hlv,e];rfl)))))
   exact ⟨k.cell 0,k.cell 1,k.cell 2,k.cell 3,k.cell 4,k.cell 5,k.cell 6,k.cell 7⟩)
  have HFN:=Lib.hid (fun (V:World) (u1 u2:Value) (hp:Pend w0 x0 V (.slice sx sn sc) (.slice ex sn ec) xs ⟨tr,id,pa,se,ho',sa,du,no⟩ (some u1) (some u2)) (V2:World) (hV2:V2=(V.setCell ⟨g,n*3+1,none⟩ u1).setCell ⟨g,n*3+2,none⟩ u2) => show HPost w0 X H w (.pointer (some ⟨bd,0,none⟩)) dd j { h with l:=init++[⟨fn,xs++[⟨tr,id,pa,se,ho',sa,du,no⟩]⟩] } V2 from by
   obtain ⟨N,vs',hN,hO,hKK⟩:=HO0.out.finish' hll hnn hlv hii hvs hp hV2
   exact HO.post HXA.out.1 (HXA.out.2.1 x0) HHX.out HXA.out.2.2 HXL.out HC0.out HO0.out.sub hN hO hKK)
  have HMX:=Lib.hid (show ∀ y∈xs,Sp.May y from fun y hy => HBS.out.1 y hy)
  have HXN:=Lib.hid (HBS.out.2)
  have htl:=(sgT_len xs HMX.out).2
  have HTL:=Lib.hid (show (sgT xs).length≤1000000000 by have:=HXN.out;omega)
  obtain ⟨tot,htot⟩:∃ tot,tot=(sgT xs).length+F.size:=⟨_,rfl⟩
  have hadd:((sgT xs).length:Int)+(F.size:Int)=(tot:Int):=by omega
  have hwr:IntKind.i64.wrap (tot:Int)=tot:=by rw [IntKind.wrap_i64];have:=HTL.out;have:=HFS.out;omega
  have HEQ:=Lib.hid (show sgEnds (xs++[⟨tr,id,pa,se,ho',sa,du,no⟩])=sgEnds xs++[(tot:Int)] by rw [sgEnds_snoc,HFE.out,hadd])
  have hT:=HTT.out x0 (Chg.refl _ _)
  have hS:=HSS.out x0 (Chg.refl _ _)
  clear hll hnn hlv hii hvs hsg htl htot hb01
  refine wp_region_two (T:=fun W => W.cell? ⟨q,0,none⟩=some (.int .i64 tr)∧W.cell? ⟨q,1,none⟩=some (.int .i64 id)∧W.cell? ⟨q,2,none⟩=some (.int .i64 pa)∧W.cell? ⟨q,3,none⟩=some (.string se)∧W.cell? ⟨q,4,none⟩=some (.string ho')∧W.cell? ⟨q,5,none⟩=some (.int .i64 sa)∧W.cell? ⟨q,6,none⟩=some (.int .i64 du)∧W.cell? ⟨q,7,none⟩=some (.string no)) (S:=fun W => W.cell? ⟨g,n*3,none⟩=some (.int .i64 fn)∧W.cell? ⟨g,n*3+1,none⟩=some (.slice sx sn sc)∧W.cell? ⟨g,n*3+2,none⟩=some (.slice ex sn ec)) (n:=24) (by kernel_rfl) ?_
  rw [← hx0]
  clear hx0
  refine tk 0 63 hT hS ?_
  refine tk 1 64 hT hS ?_
  refine tk 2 65 hT hS ?_
  refine tk 3 66 hT hS ?_
  refine tk 4 67 hT hS ?_
  try simp only [xq]
  refine two_take 5 (some 68) (v:=?_) rfl rfl (by kernel_rfl) (by kernel_rfl) (by kernel_rfl) (by kernel_rfl) (by decide) (by kernel_rfl) (fun _ _ _ h => h) (Or.inl ⟨by rfl,?hy5⟩) hT hS ?_
  case hy5 => (intro w' hS';go_simp;(try with_reducible rfl))
  try simp only [xq]
  refine tk 6 69 hT hS ?_
  refine tk 9 72 hT hS ?_
  refine tk 10 73 hT hS ?_
  refine tk 11 74 hT hS ?_
  try simp only [xq]
  refine two_take 12 (some 75) (v:=?_) rfl rfl (by kernel_rfl) (by kernel_rfl) (by kernel_rfl) (by kernel_rfl) (by decide) (by kernel_rfl) (fun _ _ _ h => h) (Or.inl ⟨by rfl,?hy12⟩) hT hS ?_
  case hy12 => (intro w' hS';go_simp;(try with_reducible rfl))
  try simp only [xq]
  refine tk 13 76 hT hS ?_
  refine tk 14 77 hT hS ?_
  try simp only [xq]
  refine two_take 15 (some 78) (v:=?_) rfl rfl (by kernel_rfl) (by kernel_rfl) (by kernel_rfl) (by kernel_rfl) (by decide) (by kernel_rfl) (fun _ _ _ h => h) (Or.inl ⟨by rfl,?hy15⟩) hT hS ?_
  case hy15 => (intro w' hS';go_simp;(try with_reducible rfl))
  try simp only [xq]
  refine tk 17 80 hT hS ?_
  refine tk 18 81 hT hS ?_
  try simp only [xq]
  refine two_one 7 rfl (by kernel_rfl) ?_
  intro K hK
  go_simp
  obtain ⟨y0,hy0⟩:∃ y,y=x0.alloc (.cells #[.int .i64 tr,.int .i64 id,.int .i64 pa,.string se,.string ho',.int .i64 sa,.int .i64 du,.string no] 47 (0,0)):=⟨_,rfl⟩
  rw [← hy0]
  have hby0:Below x0.heap.size x0 y0:=by rw [hy0];exact (Below.refl _ _).alloc (Nat.le_refl _) _
  have HAy0:=Lib.hid (show Blk y0 x0.heap.size 47 #[.int .i64 tr,.int .i64 id,.int .i64 pa,.string se,.string ho',.int .i64 sa,.int .i64 du,.string no] by rw [hy0];exact Blk.alloc_new x0 _ _)
  have HAZ:=Lib.hid (show x0.heap.size≤x0.heap.size from HPx0.out.size)
  have HPy0:=Lib.hid (HPx0.out.below hby0)
  clear hy0 hby0
  have hT1:=HTT.out y0 HPy0.out.chg
  have hS1:=HSS.out y0 HPy0.out.chg
  refine hK.out _ _ hT1 (fun _ _ => hS1) ?_
  clear hK K hT hS
  have hT:=hT1
  have hS:=hS1
  clear hT1 hS1
  try simp only [xq]
  refine two_one 8 rfl (by kernel_rfl) ?_
  intro K hK
  refine step_append_rows rfl (.tmp 68) (.tmp 70) (by rfl) spRow_len (by omega) under_spans Tryz.info_span rfl (by omega) (show OwnSp y0 w0.heap.size (.slice sx sn sc) xs from HPy0.out.sp) (by rfl) (m:=[⟨tr,id,pa,se,ho',sa,du,no⟩]) (by rfl) (RdRow.one HAy0.out rfl) (fun a _ => spRow_one a) (by have:=HXN.out;simp;omega) (by have:=HXN.out;simp;omega) (Nat.le_trans HBZ.out HPy0.out.size) ?_
  intro u1 y1 hown hgr hb
  have HPy1:=Lib.hid (HPy0.out.spans hown hgr hb)
  obtain ⟨u1x,u1c,hu⟩:=OwnRow.shape hown
  obtain ⟨u1n,hun⟩:∃ u1n,u1n=(xs++[(⟨tr,id,pa,se,ho',sa,du,no⟩:Sp.Span)]).length:=⟨_,rfl⟩
  rw [← hun] at hu
  subst hu
  clear hown hgr hb hun
  have hT1:=HTT.out y1 HPy1.out.chg
  have hS1:=HSS.out y1 HPy1.out.chg
  refine hK.out _ _ hT1 (fun _ _ => hS1) ?_
  clear hK K hT hS
  have hT:=hT1
  have hS:=hS1
  clear hT1 hS1
  try simp only [xq]
  refine two_one 16 rfl (by kernel_rfl) ?_
  intro K hK
  go_simp
  refine (segEnd_any (w:=y1) (n:=fn) sx sn sc (show OwnI y1 w0.heap.size (.slice ex sn ec) (sgEnds xs) from HPy1.out.en) HMX.out HTL.out).mono ?_
  rintro e y2 ⟨rfl,hb⟩
  have HPy2:=Lib.hid (HPy1.out.below hb)
  clear hb
  have hT1:=HTT.out y2 HPy2.out.chg
  have hS1:=HSS.out y2 HPy2.out.chg
  refine hK.out _ _ hT1 (fun _ _ => hS1) ?_
  clear hK K hT hS
  have hT:=hT1
  have hS:=hS1
  clear hT1 hS1
  try simp only [xq]
  refine tk 19 82 hT hS ?_
  try simp only [xq]
  refine two_one 20 rfl (by kernel_rfl) ?_
  intro K hK
  go_simp
  obtain ⟨y3,hy3⟩:∃ y,y=y2.alloc (.cells #[.int .i64 tot] 3 (0,0)):=⟨_,rfl⟩
  rw [← hy3]
  have hby3:Below y2.heap.size y2 y3:=by rw [hy3];exact (Below.refl _ _).alloc (Nat.le_refl _) _
  have HIy3:=Lib.hid (show Blk y3 y2.heap.size 3 #[.int .i64 tot] by rw [hy3];exact Blk.alloc_new y2 _ _)
  have HIZ:=Lib.hid (show x0.heap.size≤y2.heap.size from HPy2.out.size)
  have HPy3:=Lib.hid (HPy2.out.below hby3)
  clear hy3 hby3
  have hT1:=HTT.out y3 HPy3.out.chg
  have hS1:=HSS.out y3 HPy3.out.chg
  refine hK.out _ _ hT1 (fun _ _ => hS1) ?_
  clear hK K hT hS
  have hT:=hT1
  have hS:=hS1
  clear hT1 hS1
  try simp only [xq]
  refine two_one 21 rfl (by kernel_rfl) ?_
  intro K hK
  refine step_append_rows rfl (.tmp 75) (.tmp 83) (by rfl) iRow_len (by omega) under_ints Tryz.info_int rfl (by omega) (ownI_row (show OwnI y3 w0.heap.size (.slice ex sn ec) (sgEnds xs) from HPy3.out.en)) (by rfl) (m:=[(tot:Int)]) (by rfl) (RdRow.one HIy3.out rfl) (fun a _ u hu => iRow_one a u hu) (by rw [sgEnds_length];have:=HXN.out;simp;omega) (by rw [sgEnds_length];have:=HXN.out;simp;omega) (Nat.le_trans HBZ.out HPy3.out.size) ?_
  intro u2 y4 hown hgr hb
  have hown2:OwnI y4 w0.heap.size u2 (sgEnds (xs++[⟨tr,id,pa,se,ho',sa,du,no⟩])):=by rw [HEQ.out];exact ownI_of hown
  have HPy4:=Lib.hid (HPy3.out.ends hown2 hgr hb)
  obtain ⟨u2x,u2c,hu⟩:=OwnRow.shape hown
  obtain ⟨u2n,hun⟩:∃ u2n,u2n=(sgEnds xs++[(tot:Int)]).length:=⟨_,rfl⟩
  rw [← hun] at hu
  subst hu
  clear hown hown2 hgr hb hun
  have hT1:=HTT.out y4 HPy4.out.chg
  have hS1:=HSS.out y4 HPy4.out.chg
  refine hK.out _ _ hT1 (fun _ _ => hS1) ?_
  clear hK K hT hS
  have hT:=hT1
  have hS:=hS1
  clear hT1 hS1
  try simp only [xq]
  refine tk 22 85 hT hS ?_
  refine tk 23 86 hT hS ?_
  try simp only [xq]
  obtain ⟨f1,f2⟩:=HFZ.out y4 HPy4.out.chg
  refine two_one 24 rfl (by kernel_rfl) ?_
  intro K hK
  go_simp
  obtain ⟨z1,hz1⟩:∃ z1,z1=y4.setCell ⟨g,n*3+1,none⟩ (.slice u1x u1n u1c):=⟨_,rfl⟩
  rw [← hz1]
  have hT1:=HTS.out y4 z1 HPy4.out.chg (by rw [hz1];exact (Chg.refl (fun k => k=g) y4).setCell (p:=⟨g,_,none⟩) (fun _ => rfl) _)
  have f3:z1.frozen? ⟨g,n*3+2,none⟩=false:=by rw [hz1];simpa using f2
  have c3:z1.cell? ⟨g,n*3+2,none⟩=some (.slice ex sn ec):=by rw [hz1];exact (World.cell?_setCell_other _ _ _ _ (by intro e;injection e with _ e _;omega)).trans hS.2.2
  refine hK.out _ _ hT1 (fun _ e => absurd rfl e) ?_
  have HZ1:=Lib.hid hz1
  clear hK K hT hS f1 f2 hz1
  have hT:=hT1
  clear hT1
  try simp only [xq]
  refine two_one 25 rfl (by kernel_rfl) ?_
  intro K hK
  go_simp
  refine hK.out _ _ hT (fun e _ => by exact absurd e (by decide)) ?_
  clear hK K
  try simp only [xq]
  refine two_one 26 rfl (by kernel_rfl) ?_
  intro K hK
  go_simp
  refine hK.out _ _ hT (fun e _ => by exact absurd e (by decide)) ?_
  clear hK K
  try simp only [xq]
  refine two_one 27 rfl (by kernel_rfl) ?_
  intro K hK
  go_simp
  obtain ⟨z2,hz2⟩:∃ z2,z2=z1.setCell ⟨g,n*3+2,none⟩ (.slice u2x u2n u2c):=⟨_,rfl⟩
  rw [← hz2]
  have hT2:=HTS.out y4 z2 HPy4.out.chg (by rw [hz2,HZ1.out];exact ((Chg.refl (fun k => k=g) y4).setCell (p:=⟨g,_,none⟩) (fun _ => rfl) _).setCell (p:=⟨g,_,none⟩) (fun _ => rfl) _)
  have HZZ:=Lib.hid (HFN.out y4 _ _ HPy4.out z2 (by rw [hz2,HZ1.out]))
  refine hK.out _ _ hT2 (fun e _ => by exact absurd e (by decide)) ?_
  clear hK K hT hT2 f3 c3 hz2
  try simp only [xq]
  refine two_done (by kernel_rfl) ?_ _
  go_wp2_with fail
  go_ret
  rw [HV.out]
  exact ⟨rfl,HZZ.out⟩
end
end Go.Proofs.YtdacanghbepjpaaGreatDoor
