/- A host's log: a record that begins a segment: walked. -/
import Derived.Test.YtdacanghbepjpaaGreatDoorHlU
namespace Go.Proofs.YtdacanghbepjpaaGreatDoor
set_option linter.unusedSimpArgs false
set_option linter.unusedVariables false
set_option maxRecDepth 100000
open Go.RowKit Go.Maps
open Dsk
section
variable {w0 w w':World} {X H S:Nat→Prop} {v lv:Value} {d d':Dk} {j B:Nat} {h:Hl} {vs:List SegV} {l:List Sg}
theorem begin_l {b:Str} {r:Int} {hh:Hl} {dd:Dk} {nx:Nat} (hz:beginP d h b=(r,hh,dd)) (hr:r=0) (hn:nx=nextOf h.l):hh.l=h.l++[⟨nx,[]⟩]:=by
 have key:∀ y:Int×Dk,(if y.1≠0 then (y.1,h.told y.1,y.2)
   else let z:=y.2.append (ln (nextOf h.l)) b
    if z.1≠0 then (z.1,h.told z.1,z.2) else (0,{ h with l:=h.l++[⟨nextOf h.l,[]⟩] },z.2))=(r,hh,dd)→hh.l=h.l++[⟨nx,[]⟩]:=by
  intro y e
  by_cases h1:y.1≠0
  · rw [if_pos h1] at e
    injection e with e1 _
    exact absurd (e1.trans hr) h1
  · rw [if_neg h1] at e
    simp only at e
    by_cases h2:(y.2.append (ln (nextOf h.l)) b).1≠0
    · rw [if_pos h2] at e
      injection e with e1 _
      exact absurd (e1.trans hr) h2
    · rw [if_neg h2] at e
      injection e with _ e2
      injection e2 with e2 _
      rw [← e2,hn]
 exact key _ hz
set_option maxHeartbeats 64000000 in
theorem happend_nil (h0:HS w0 X H w v d j h) (hrun:h.runs d) (he:LEnv w0) (hbd:SgsBnd h.l) (hmore:h.l.length<1000000) (hnx:nextOf h.l≤999999999) (x:Sp.Span) (hs1:x.service.size≤maxLen) (hs2:x.host.size≤maxLen) (hs3:x.note.size≤maxLen) (hm:Sp.May x)
  (hl:h.l=[]) :
  Calls Tryz.prog 20 #[.pointer (some ⟨j,0,none⟩),spV x] w fun e w' => e=.returned (.int .i64 (appP d h x).1)∧HPost w0 X H w v (appP d h x).2.2 j (appP d h x).2.1 w':=by
 obtain ⟨lv,vs,ho⟩:=h0.open_
 obtain ⟨bd,rfl⟩:=h0.ptr
 obtain ⟨q,hq⟩:∃ q,q=w.heap.size:=⟨_,rfl⟩
 obtain ⟨wa,hwa⟩:∃ wa,wa=w.alloc (.cells #[.int .i64 x.trace,.int .i64 x.id,.int .i64 x.parent,.string x.service,.string x.host,.int .i64 x.start,.int .i64 x.dur,.string x.note] 47 (0,0)):=⟨_,rfl⟩
 have hba:Below w.heap.size w wa:=by rw [hwa];exact (Below.refl _ _).alloc (Nat.le_refl _) _
 have HQa:=Lib.hid (show Blk wa q 47 #[.int .i64 x.trace,.int .i64 x.id,.int .i64 x.parent,.string x.service,.string x.host,.int .i64 x.start,.int .i64 x.dur,.string x.note] by rw [hwa,hq];exact Blk.alloc_new w _ _)
 obtain ⟨X1,hX1⟩:∃ X1,X1=Also X w wa:=⟨_,rfl⟩
 have HOa:=Lib.hid (show HO w0 X1 H wa (.pointer (some ⟨bd,0,none⟩)) d j h lv vs by rw [hX1];exact ho.addX hba)
 have HXX:=Lib.hid (show ∀ k,X k→X1 k by rw [hX1];exact fun k e => .inl e)
 have HHX:=Lib.hid ho.sub
 have HXL:=Lib.hid ho.live.lt
 have HQX:=Lib.hid (show X1 q∧¬ H q from ⟨by rw [hX1,hq];exact .inr ⟨Nat.le_refl _,by rw [hwa];simp⟩,fun e => by have:=(ho.new q e).2;omega⟩)
 have HQW:=Lib.hid (show w.heap.size≤q from by omega)
 have HCa:=Lib.hid (HK.below (X:=X) (H:=H) hba)
 have HWA:=Lib.hid hwa
 have HR:=Lib.hid (hruns_any HOa.out.hs)
 rw [if_pos hrun] at HR
 have HEN:=Lib.hid (fun W:World => hencode_any (w:=W) x hs1 hs2 hs3)
 have HBZ:=Lib.hid (show w0.heap.size≤w.heap.size from ho.live.size)
 have hvs9:vs.length≤1000000:=by rw [ho.rows.len];exact hbd.many
 have hq2:spQ x=(Sp.enc x,0):=by unfold spQ;exact if_pos hm
 rw [hq2] at HEN
 have hel:=Sp.enc_len hm
 obtain ⟨E,hE⟩:∃ E:ByteArray,E=⟨(Sp.enc x).toArray⟩:=⟨_,rfl⟩
 have hEz:E.size=(Sp.enc x).length:=by rw [hE];exact List.size_toArray
 have hEd:E.data.toList=Sp.enc x:=by rw [hE]
 have HFR:=Lib.hid (fun W:World => frame_short E W (by omega))
 rw [hEd] at HFR
 simp only at HEN
 rw [← hE] at HEN
 obtain ⟨F,hF⟩:∃ F:ByteArray,F=⟨(frm x).toArray⟩:=⟨_,rfl⟩
 have hF2:(⟨(Frm.frame (Sp.enc x)).toArray⟩:ByteArray)=F:=by rw [hF];rfl
 rw [hF2] at HFR
 have hFd:F.data.toList=frm x:=by rw [hF]
 have hFl:=frm_len hm
 have hFz:F.size=(frm x).length:=by rw [hF];exact List.size_toArray
 have HL:=Lib.hid (fun (W:World) (hW:HO w0 X1 H W (.pointer (some ⟨bd,0,none⟩)) d j h lv vs) => by
  have:=hlast_any hW.blk hW.rows hbd.many
  rw [hl] at this
  rw [show lastPtr lv ([]:List Sg).length=.pointer none from lastPtr_nil lv] at this
  exact this)
 have HMN:=Lib.hid hmore
 obtain ⟨z,hz⟩:∃ z,z=beginP d h (frm x):=⟨_,rfl⟩
 obtain ⟨r,hh,dd⟩:=z
 have HBG:=Lib.hid (fun (W:World) (hW:HS w0 X1 H W (.pointer (some ⟨bd,0,none⟩)) d j h) => by
  have:=hbegin_any hW he hbd hnx F (by omega)
  rw [hFd,← hz] at this
  exact this)
 obtain ⟨nx,hnn⟩:∃ nx,nx=nextOf h.l:=⟨_,rfl⟩
 have HAPP:=Lib.hid (show (r≠0→appP d h x=(r,hh,dd))∧(r=0→appP d h x=(0,{ hh with l:=pushL hh.l x },dd)∧hh.l=h.l++[⟨nx,[]⟩]) from by
  have e1:appP d h x=if r≠0 then (r,hh,dd) else (0,{ hh with l:=pushL hh.l x },dd):=by
   have hg:h.l.getLast?=none:=by rw [hl];rfl
   unfold appP
   rw [if_neg (fun e => e hm),hg]
   simp only [← hz]
  refine ⟨fun e => by rw [e1,if_pos e],fun e => ⟨by rw [e1,if_neg (by simp [e])],?_⟩⟩
  exact begin_l hz.symm e hnn)
 have HFE:=Lib.hid (show ((frm x).length:Int)=(F.size:Int) by rw [hFz])
 have HFS:=Lib.hid (show F.size≤120 by omega)
 obtain ⟨tr,id,pa,se,ho',sa,du,no⟩:=x
 unfold spV at HEN ⊢
 simp only at HEN HQa HWA ⊢
 clear h0 hrun he hbd hs1 hs2 hs3 hm ho hwa hba hX1 hq2 hvs9 hE hEz hEd hel hF hF2 hFd hFl hFz hl hz hnx hnn hmore
 go_enter Tryz.func20,Tryz.ntmps20
 go_wp2_with fail
 rw [← HWA.out,← hq]
 clear hq
 refine HR.out.mono ?_
 rintro e w1 ⟨rfl,hb1⟩
 have HO1:=Lib.hid (HOa.out.below hb1)
 have HC1:=Lib.hid (HCa.out.trans (HK.below hb1))
 have HQ1:=Lib.hid (HQa.out.below hb1)
 clear hb1
 have a:=HQ1.out.cell 0
 have a1:=HQ1.out.cell 1
 have a2:=HQ1.out.cell 2
 have a3:=HQ1.out.cell 3
 have a4:=HQ1.out.cell 4
 have a5:=HQ1.out.cell 5
 have a6:=HQ1.out.cell 6
 have a7:=HQ1.out.cell 7
 simp at a a1 a2 a3 a4 a5 a6 a7
 go_wp2_with fail
 refine (HEN.out w1).mono ?_
 rintro e w2 ⟨rfl,hb2⟩
 have HO2:=Lib.hid (HO1.out.below hb2)
 have HC2:=Lib.hid (HC1.out.trans (HK.below hb2))
 have HQ2':=Lib.hid (HQ1.out.below hb2)
 clear hb2 a a1 a2 a3 a4 a5 a6 a7
 go_wp2_with fail
 refine (HFR.out w2).mono ?_
 rintro e w3 ⟨rfl,hb3⟩
 have HO3:=Lib.hid (HO2.out.below hb3)
 have HC3:=Lib.hid (HC2.out.trans (HK.below hb3))
 have HQ3:=Lib.hid (HQ2'.out.below hb3)
 clear hb3
 go_wp2_with fail
 refine (HL.out w3 HO3.out).mono ?_
 rintro e w4 ⟨rfl,hb4⟩
 have HO4:=Lib.hid (HO3.out.below hb4)
 have HC4:=Lib.hid (HC3.out.trans (HK.below hb4))
 have HQ4:=Lib.hid (HQ3.out.below hb4)
 clear hb4
 go_wp2_with fail
 refine (HBG.out w4 HO4.out.hs).mono ?_
 rintro e w5 ⟨rfl,N1,hN1,hs5,hk5⟩
 have HC5:=Lib.hid (HK.trans HC4.out (HK.wide HXX.out hk5))
 have HQ5:=Lib.hid (HQ4.out.chg hk5 (fun e => e.elim (fun e => e HQX.out.1) HQX.out.2))
 have HQ2:=Lib.hid (show Plus X1 N1 q∧¬ Plus H N1 q from ⟨.inl HQX.out.1,fun e => e.elim HQX.out.2 fun e => by have:=(hN1 q e).1;have:=HQ4.out.lt;omega⟩)
 have HXA:=Lib.hid (show (∀ k,X k→Plus X1 N1 k)∧(∀ (x0:World),w5.heap.size≤x0.heap.size→∀ k,Plus H N1 k→H k∨(w.heap.size≤k∧k<x0.heap.size))∧(∀ k,H k→Plus H N1 k) from ⟨fun k e => .inl (HXX.out k e),fun x0 hx0 k e => e.elim .inl fun e => .inr ⟨Nat.le_trans HC4.out.size (hN1 k e).1,Nat.lt_of_lt_of_le (hN1 k e).2 hx0⟩,fun k e => .inl e⟩)
 by_cases hr0:r=0
 case neg =>
  have t1:(r == 0)=false:=beq_eq_false_iff_ne.2 hr0
  have HV:=Lib.hid (HAPP.out.1 hr0)
  have HS5:=Lib.hid hs5
  clear hs5 hk5
  go_wp2_with fail
  go_ret
  rw [HV.out]
  refine ⟨rfl,N1,fun k hk => ⟨Nat.le_trans HC4.out.size (hN1 k hk).1,(hN1 k hk).2⟩,?_,HC5.out⟩
  obtain ⟨lv5,vs5,ho5⟩:=HS5.out.open_
  exact (ho5.dropX (fun k hk => hk.elim (fun e => .inl (HXX.out k e)) .inr) (fun k hk => hk.elim (fun e => .inl (HHX.out k e)) .inr)).hs
 case pos =>
  subst hr0
  obtain ⟨HV0,HHL⟩:=HAPP.out.2 rfl
  have HV:=Lib.hid HV0
  obtain ⟨lv5,vs5,ho5⟩:=hs5.open_
  obtain ⟨g,c,sx,sc,ex,ec,hlv,hlp,_,_,hi,hvs⟩:=ho5.last HHL
  have HL5:=Lib.hid (show Calls Tryz.prog 77 #[.pointer (some ⟨j,0,none⟩)] w5 fun e w' => e=.returned (.pointer (some ⟨g,h.l.length*3,none⟩))∧Below w5.heap.size w5 w' from by
   have:=hlast_any ho5.blk ho5.rows (by rw [HHL];have:=HMN.out;simp;omega)
   rw [hlp] at this
   exact this)
  obtain ⟨n,hn⟩:∃ n,n=h.l.length:=⟨_,rfl⟩
  obtain ⟨sn,hsn⟩:∃ sn:Nat,sn=([]:List Sp.Span).length:=⟨_,rfl⟩
  have HLL:=Lib.hid (show hh.l=h.l++[⟨nx,[]⟩]∧n=h.l.length∧lv5=.slice (some ⟨g,0,none⟩) (n+1) c∧∃ hi:n<vs5.length,vs5[n]=⟨nx,.slice sx sn sc,.slice ex sn ec⟩ by subst hn;subst hsn;exact ⟨HHL,rfl,hlv,hi,hvs⟩)
  have HO5:=Lib.hid ho5
  rw [← hn] at HL5
  have HBS:=Lib.hid (show (∀ y∈([]:List Sp.Span),Sp.May y)∧([]:List Sp.Span).length≤1000000 from ⟨fun y hy => (by cases hy),by simp⟩)
  obtain ⟨xs,hxs⟩:∃ xs:List Sp.Span,xs=[]:=⟨_,rfl⟩
  rw [← hxs] at HLL HBS
  obtain ⟨init,hin⟩:∃ init,init=h.l:=⟨_,rfl⟩
  obtain ⟨fn,hfn⟩:∃ fn,fn=nx:=⟨_,rfl⟩
  rw [← hin,← hfn] at HLL
  have HW:=Lib.hid (show ({ hh with l:=init++[⟨fn,xs++[⟨tr,id,pa,se,ho',sa,du,no⟩]⟩] }:Hl)={ hh with l:=pushL hh.l ⟨tr,id,pa,se,ho',sa,du,no⟩ } by rw [HHL,pushL_snoc,hin,hfn,hxs])
  rw [← HW.out] at HV
  clear hs5 hk5 hN1 HV0 HHL ho5 hlv hlp hi hvs hn hsn hxs hin hfn
  go_wp2_with fail
  refine HL5.out.mono ?_
  rintro e w6 ⟨rfl,hb6⟩
  have HO6:=Lib.hid (HO5.out.below hb6)
  have HC6:=Lib.hid (HC5.out.trans (HK.below hb6))
  have HQ6:=Lib.hid (HQ5.out.below hb6)
  have HZ56:=Lib.hid hb6.size
  clear hb6
  go_wp2_with fail
  obtain ⟨x0,hx0⟩:∃ x0,x0=(w6).drew:=⟨_,rfl⟩
  have hb01:Below (w6).heap.size w6 x0:=by rw [hx0];exact (Below.refl _ _).drew
  have HO0:=Lib.hid (HO.below HO6.out hb01)
  have HC0:=Lib.hid (HK.trans HC6.out (HK.below hb01))
  have HQ0:=Lib.hid (Blk.below HQ6.out hb01)
  have HBZ:=Lib.hid (show w0.heap.size≤x0.heap.size from HO0.out.live.size)
  obtain ⟨hll,hnn,hlv,hii,hvs⟩:=HLL.out
  have hsg:SegAt w0.heap.size x0 ⟨fn,.slice sx sn sc,.slice ex sn ec⟩ ⟨fn,xs⟩:=by
   have h5:=HO0.out.rows.each n hii (by rw [hll,hnn];simp)
   rw [hvs] at h5
   have e5:(hh.l)[n]'(by rw [hll,hnn];simp)=⟨fn,xs⟩:=by simp [hll,hnn]
   rw [e5] at h5
   exact h5
  have HPx0:=Lib.hid (show Pend w0 x0 x0 (.slice sx sn sc) (.slice ex sn ec) xs ⟨tr,id,pa,se,ho',sa,du,no⟩ none none from Pend.start hsg.spans hsg.ends)
  have HSV:=Lib.hid (fun k (hk:(Value.slice sx sn sc).ownBlock=some k) => (OwnRow.lt hsg.spans k hk).2)
  have HEV:=Lib.hid (fun k (hk:(Value.slice ex sn ec).ownBlock=some k) => (hsg.ends.lt' k hk).2)
  have HTT:=Lib.hid (fun (V:World) (hV:Chg (fun k => (Value.slice sx sn sc).ownBlock=some k∨(Value.slice ex sn ec).ownBlock=some k) x0 V) => show V.cell? ⟨q,0,none⟩=some (.int .i64 tr)∧V.cell? ⟨q,1,none⟩=some (.int .i64 id)∧V.cell? ⟨q,2,none⟩=some (.int .i64 pa)∧V.cell? ⟨q,3,none⟩=some (.string se)∧V.cell? ⟨q,4,none⟩=some (.string ho')∧V.cell? ⟨q,5,none⟩=some (.int .i64 sa)∧V.cell? ⟨q,6,none⟩=some (.int .i64 du)∧V.cell? ⟨q,7,none⟩=some (.string no) from by
   have k:=HQ0.out.chg hV (fun e => HQ2.out.2 (HO0.out.inSeg hii hvs e))
   exact ⟨k.cell 0,k.cell 1,k.cell 2,k.cell 3,k.cell 4,k.cell 5,k.cell 6,k.cell 7⟩)
  have HSS:=Lib.hid (fun (V:World) (hV:Chg (fun k => (Value.slice sx sn sc).ownBlock=some k∨(Value.slice ex sn ec).ownBlock=some k) x0 V) => (HO0.out.still hlv hii hvs hV).1)
  have HFZ:=Lib.hid (fun (V:World) (hV:Chg (fun k => (Value.slice sx sn sc).ownBlock=some k∨(Value.slice ex sn ec).ownBlock=some k) x0 V) => (HO0.out.still hlv hii hvs hV).2)
  have HTS:=Lib.hid (fun (V V2:World) (hV:Chg (fun k => (Value.slice sx sn sc).ownBlock=some k∨(Value.slice ex sn ec).ownBlock=some k) x0 V) (hV2:Chg (fun k => k=g) V V2) => show V2.cell? ⟨q,0,none⟩=some (.int .i64 tr)∧V2.cell? ⟨q,1,none⟩=some (.int .i64 id)∧V2.cell? ⟨q,2,none⟩=some (.int .i64 pa)∧V2.cell? ⟨q,3,none⟩=some (.string se)∧V2.cell? ⟨q,4,none⟩=some (.string ho')∧V2.cell? ⟨q,5,none⟩=some (.int .i64 sa)∧V2.cell? ⟨q,6,none⟩=some (.int .i64 du)∧V2.cell? ⟨q,7,none⟩=some (.string no) from by
   have k:=(HQ0.out.chg hV (fun e => HQ2.out.2 (HO0.out.inSeg hii hvs e))).chg hV2 (fun e => HQ2.out.2 (HO0.out.inH q (.inr (.inl (by rw [hlv,e];rfl)))))
   exact ⟨k.cell 0,k.cell 1,k.cell 2,k.cell 3,k.cell 4,k.cell 5,k.cell 6,k.cell 7⟩)
  have HFN:=Lib.hid (fun (V:World) (u1 u2:Value) (hp:Pend w0 x0 V (.slice sx sn sc) (.slice ex sn ec) xs ⟨tr,id,pa,se,ho',sa,du,no⟩ (some u1) (some u2)) (V2:World) (hV2:V2=(V.setCell ⟨g,n*3+1,none⟩ u1).setCell ⟨g,n*3+2,none⟩ u2) => show HPost w0 X H w (.pointer (some ⟨bd,0,none⟩)) dd j { hh with l:=init++[⟨fn,xs++[⟨tr,id,pa,se,ho',sa,du,no⟩]⟩] } V2 from by
   obtain ⟨N,vs',hN,hO,hKK⟩:=HO0.out.finish' hll hnn hlv hii hvs hp hV2
   exact HO.post HXA.out.1 (HXA.out.2.1 x0 (by have:=HZ56.out;have:=hb01.size;omega)) HHX.out HXA.out.2.2 HXL.out HC0.out HO0.out.sub hN hO hKK)
  have HMX:=Lib.hid (show ∀ y∈xs,Sp.May y from fun y hy => HBS.out.1 y hy)
  have HXN:=Lib.hid (HBS.out.2)
  have htl:=(sgT_len xs HMX.out).2
  have HTL:=Lib.hid (show (sgT xs).length≤1000000000 by have:=HXN.out;omega)
  obtain ⟨tot,htot⟩:∃ tot,tot=(sgT xs).length+F.size:=⟨_,rfl⟩
  have hadd:((sgT xs).length:Int)+(F.size:Int)=(tot:Int):=by omega
  have hwr:IntKind.i64.wrap (tot:Int)=tot:=by rw [IntKind.wrap_i64];have:=HTL.out;have:=HFS.out;omega
  have HEQ:=Lib.hid (show sgEnds (xs++[⟨tr,id,pa,se,ho',sa,du,no⟩])=sgEnds xs++[(tot:Int)] by rw [sgEnds_snoc,HFE.out,hadd])
  have hT:=HTT.out x0 (Chg.refl _ _)
  have hS:=HSS.out x0 (Chg.refl _ _)
  clear hll hnn hlv hii hvs hsg htl htot hb01
  refine wp_region_two (T:=fun W => W.cell? ⟨q,0,none⟩=some (.int .i64 tr)∧W.cell? ⟨q,1,none⟩=some (.int .i64 id)∧W.cell? ⟨q,2,none⟩=some (.int .i64 pa)∧W.cell? ⟨q,3,none⟩=some (.string se)∧W.cell? ⟨q,4,none⟩=some (.string ho')∧W.cell? ⟨q,5,none⟩=some (.int .i64 sa)∧W.cell? ⟨q,6,none⟩=some (.int .i64 du)∧W.cell? ⟨q,7,none⟩=some (.string no)) (S:=fun W => W.cell? ⟨g,n*3,none⟩=some (.int .i64 fn)∧W.cell? ⟨g,n*3+1,none⟩=some (.slice sx sn sc)∧W.cell? ⟨g,n*3+2,none⟩=some (.slice ex sn ec)) (n:=24) (by kernel_rfl) ?_
  rw [← hx0]
  clear hx0
  refine tk 0 63 hT hS ?_
  refine tk 1 64 hT hS ?_
  refine tk 2 65 hT hS ?_
  refine tk 3 66 hT hS ?_
  refine tk 4 67 hT hS ?_
  try simp only [xq]
  refine two_take 5 (some 68) (v:=?_) rfl rfl (by kernel_rfl) (by kernel_rfl) (by kernel_rfl) (by kernel_rfl) (by decide) (by kernel_rfl) (fun _ _ _ h => h) (Or.inl ⟨by rfl,?hy5⟩) hT hS ?_
  case hy5 => (intro w' hS';go_simp;(try with_reducible rfl))
  try simp only [xq]
  refine tk 6 69 hT hS ?_
  refine tk 9 72 hT hS ?_
  refine tk 10 73 hT hS ?_
  refine tk 11 74 hT hS ?_
  try simp only [xq]
  refine two_take 12 (some 75) (v:=?_) rfl rfl (by kernel_rfl) (by kernel_rfl) (by kernel_rfl) (by kernel_rfl) (by decide) (by kernel_rfl) (fun _ _ _ h => h) (Or.inl ⟨by rfl,?hy12⟩) hT hS ?_
  case hy12 => (intro w' hS';go_simp;(try with_reducible rfl))
  try simp only [xq]
  refine tk 13 76 hT hS ?_
  refine tk 14 77 hT hS ?_
  try simp only [xq]
  refine two_take 15 (some 78) (v:=?_) rfl rfl (by kernel_rfl) (by kernel_rfl) (by kernel_rfl) (by kernel_rfl) (by decide) (by kernel_rfl) (fun _ _ _ h => h) (Or.inl ⟨by rfl,?hy15⟩) hT hS ?_
  case hy15 => (intro w' hS';go_simp;(try with_reducible rfl))
  try simp only [xq]
  refine tk 17 80 hT hS ?_
  refine tk 18 81 hT hS ?_
  try simp only [xq]
  refine two_one 7 rfl (by kernel_rfl) ?_
  intro K hK
  go_simp
  obtain ⟨y0,hy0⟩:∃ y,y=x0.alloc (.cells #[.int .i64 tr,.int .i64 id,.int .i64 pa,.string se,.string ho',.int .i64 sa,.int .i64 du,.string no] 47 (0,0)):=⟨_,rfl⟩
  rw [← hy0]
  have hby0:Below x0.heap.size x0 y0:=by rw [hy0];exact (Below.refl _ _).alloc (Nat.le_refl _) _
  have HAy0:=Lib.hid (show Blk y0 x0.heap.size 47 #[.int .i64 tr,.int .i64 id,.int .i64 pa,.string se,.string ho',.int .i64 sa,.int .i64 du,.string no] by rw [hy0];exact Blk.alloc_new x0 _ _)
  have HAZ:=Lib.hid (show x0.heap.size≤x0.heap.size from HPx0.out.size)
  have HPy0:=Lib.hid (HPx0.out.below hby0)
  clear hy0 hby0
  have hT1:=HTT.out y0 HPy0.out.chg
  have hS1:=HSS.out y0 HPy0.out.chg
  refine hK.out _ _ hT1 (fun _ _ => hS1) ?_
  clear hK K hT hS
  have hT:=hT1
  have hS:=hS1
  clear hT1 hS1
  try simp only [xq]
  refine two_one 8 rfl (by kernel_rfl) ?_
  intro K hK
  refine step_append_rows rfl (.tmp 68) (.tmp 70) (by rfl) spRow_len (by omega) under_spans Tryz.info_span rfl (by omega) (show OwnSp y0 w0.heap.size (.slice sx sn sc) xs from HPy0.out.sp) (by rfl) (m:=[⟨tr,id,pa,se,ho',sa,du,no⟩]) (by rfl) (RdRow.one HAy0.out rfl) (fun a _ => spRow_one a) (by have:=HXN.out;simp;omega) (by have:=HXN.out;simp;omega) (Nat.le_trans HBZ.out HPy0.out.size) ?_
  intro u1 y1 hown hgr hb
  have HPy1:=Lib.hid (HPy0.out.spans hown hgr hb)
  obtain ⟨u1x,u1c,hu⟩:=OwnRow.shape hown
  obtain ⟨u1n,hun⟩:∃ u1n,u1n=(xs++[(⟨tr,id,pa,se,ho',sa,du,no⟩:Sp.Span)]).length:=⟨_,rfl⟩
  rw [← hun] at hu
  subst hu
  clear hown hgr hb hun
  have hT1:=HTT.out y1 HPy1.out.chg
  have hS1:=HSS.out y1 HPy1.out.chg
  refine hK.out _ _ hT1 (fun _ _ => hS1) ?_
  clear hK K hT hS
  have hT:=hT1
  have hS:=hS1
  clear hT1 hS1
  try simp only [xq]
  refine two_one 16 rfl (by kernel_rfl) ?_
  intro K hK
  go_simp
  refine (segEnd_any (w:=y1) (n:=fn) sx sn sc (show OwnI y1 w0.heap.size (.slice ex sn ec) (sgEnds xs) from HPy1.out.en) HMX.out HTL.out).mono ?_
  rintro e y2 ⟨rfl,hb⟩
  have HPy2:=Lib.hid (HPy1.out.below hb)
  clear hb
  have hT1:=HTT.out y2 HPy2.out.chg
  have hS1:=HSS.out y2 HPy2.out.chg
  refine hK.out _ _ hT1 (fun _ _ => hS1) ?_
  clear hK K hT hS
  have hT:=hT1
  have hS:=hS1
  clear hT1 hS1
  try simp only [xq]
  refine tk 19 82 hT hS ?_
  try simp only [xq]
  refine two_one 20 rfl (by kernel_rfl) ?_
  intro K hK
  go_simp
  obtain ⟨y3,hy3⟩:∃ y,y=y2.alloc (.cells #[.int .i64 tot] 3 (0,0)):=⟨_,rfl⟩
  rw [← hy3]
  have hby3:Below y2.heap.size y2 y3:=by rw [hy3];exact (Below.refl _ _).alloc (Nat.le_refl _) _
  have HIy3:=Lib.hid (show Blk y3 y2.heap.size 3 #[.int .i64 tot] by rw [hy3];exact Blk.alloc_new y2 _ _)
  have HIZ:=Lib.hid (show x0.heap.size≤y2.heap.size from HPy2.out.size)
  have HPy3:=Lib.hid (HPy2.out.below hby3)
  clear hy3 hby3
  have hT1:=HTT.out y3 HPy3.out.chg
  have hS1:=HSS.out y3 HPy3.out.chg
  refine hK.out _ _ hT1 (fun _ _ => hS1) ?_
  clear hK K hT hS
  have hT:=hT1
  have hS:=hS1
  clear hT1 hS1
  try simp only [xq]
  refine two_one 21 rfl (by kernel_rfl) ?_
  intro K hK
  refine step_append_rows rfl (.tmp 75) (.tmp 83) (by rfl) iRow_len (by omega) under_ints Tryz.info_int rfl (by omega) (ownI_row (show OwnI y3 w0.heap.size (.slice ex sn ec) (sgEnds xs) from HPy3.out.en)) (by rfl) (m:=[(tot:Int)]) (by rfl) (RdRow.one HIy3.out rfl) (fun a _ u hu => iRow_one a u hu) (by rw [sgEnds_length];have:=HXN.out;simp;omega) (by rw [sgEnds_length];have:=HXN.out;simp;omega) (Nat.le_trans HBZ.out HPy3.out.size) ?_
  intro u2 y4 hown hgr hb
  have hown2:OwnI y4 w0.heap.size u2 (sgEnds (xs++[⟨tr,id,pa,se,ho',sa,du,no⟩])):=by rw [HEQ.out];exact ownI_of hown
  have HPy4:=Lib.hid (HPy3.out.ends hown2 hgr hb)
  obtain ⟨u2x,u2c,hu⟩:=OwnRow.shape hown
  obtain ⟨u2n,hun⟩:∃ u2n,u2n=(sgEnds xs++[(tot:Int)]).length:=⟨_,rfl⟩
  rw [← hun] at hu
  subst hu
  clear hown hown2 hgr hb hun
  have hT1:=HTT.out y4 HPy4.out.chg
  have hS1:=HSS.out y4 HPy4.out.chg
  refine hK.out _ _ hT1 (fun _ _ => hS1) ?_
  clear hK K hT hS
  have hT:=hT1
  have hS:=hS1
  clear hT1 hS1
  try simp only [xq]
  refine tk 22 85 hT hS ?_
  refine tk 23 86 hT hS ?_
  try simp only [xq]
  obtain ⟨f1,f2⟩:=HFZ.out y4 HPy4.out.chg
  refine two_one 24 rfl (by kernel_rfl) ?_
  intro K hK
  go_simp
  obtain ⟨z1,hz1⟩:∃ z1,z1=y4.setCell ⟨g,n*3+1,none⟩ (.slice u1x u1n u1c):=⟨_,rfl⟩
  rw [← hz1]
  have hT1:=HTS.out y4 z1 HPy4.out.chg (by rw [hz1];exact (Chg.refl (fun k => k=g) y4).setCell (p:=⟨g,_,none⟩) (fun _ => rfl) _)
  have f3:z1.frozen? ⟨g,n*3+2,none⟩=false:=by rw [hz1];simpa using f2
  have c3:z1.cell? ⟨g,n*3+2,none⟩=some (.slice ex sn ec):=by rw [hz1];exact (World.cell?_setCell_other _ _ _ _ (by intro e;injection e with _ e _;omega)).trans hS.2.2
  refine hK.out _ _ hT1 (fun _ e => absurd rfl e) ?_
  have HZ1:=Lib.hid hz1
  clear hK K hT hS f1 f2 hz1
  have hT:=hT1
  clear hT1
  try simp only [xq]
  refine two_one 25 rfl (by kernel_rfl) ?_
  intro K hK
  go_simp
  refine hK.out _ _ hT (fun e _ => by exact absurd e (by decide)) ?_
  clear hK K
  try simp only [xq]
  refine two_one 26 rfl (by kernel_rfl) ?_
  intro K hK
  go_simp
  refine hK.out _ _ hT (fun e _ => by exact absurd e (by decide)) ?_
  clear hK K
  try simp only [xq]
  refine two_one 27 rfl (by kernel_rfl) ?_
  intro K hK
  go_simp
  obtain ⟨z2,hz2⟩:∃ z2,z2=z1.setCell ⟨g,n*3+2,none⟩ (.slice u2x u2n u2c):=⟨_,rfl⟩
  rw [← hz2]
  have hT2:=HTS.out y4 z2 HPy4.out.chg (by rw [hz2,HZ1.out];exact ((Chg.refl (fun k => k=g) y4).setCell (p:=⟨g,_,none⟩) (fun _ => rfl) _).setCell (p:=⟨g,_,none⟩) (fun _ => rfl) _)
  have HZZ:=Lib.hid (HFN.out y4 _ _ HPy4.out z2 (by rw [hz2,HZ1.out]))
  refine hK.out _ _ hT2 (fun e _ => by exact absurd e (by decide)) ?_
  clear hK K hT hT2 f3 c3 hz2
  try simp only [xq]
  refine two_done (by kernel_rfl) ?_ _
  go_wp2_with fail
  go_ret
  rw [HV.out]
  exact ⟨rfl,HZZ.out⟩
set_option maxHeartbeats 64000000 in
theorem happend_new (h0:HS w0 X H w v d j h) (hrun:h.runs d) (he:LEnv w0) (hbd:SgsBnd h.l) (hmore:h.l.length<1000000) (hnx:nextOf h.l≤999999999) (x:Sp.Span) (hs1:x.service.size≤maxLen) (hs2:x.host.size≤maxLen) (hs3:x.note.size≤maxLen) (hm:Sp.May x)
  {init0:List Sg} {a:Sg} (hl:h.l=init0++[a]) (h16:¬ a.spans.length<16) :
  Calls Tryz.prog 20 #[.pointer (some ⟨j,0,none⟩),spV x] w fun e w' => e=.returned (.int .i64 (appP d h x).1)∧HPost w0 X H w v (appP d h x).2.2 j (appP d h x).2.1 w':=by
 obtain ⟨lv,vs,ho⟩:=h0.open_
 obtain ⟨bd,rfl⟩:=h0.ptr
 obtain ⟨q,hq⟩:∃ q,q=w.heap.size:=⟨_,rfl⟩
 obtain ⟨wa,hwa⟩:∃ wa,wa=w.alloc (.cells #[.int .i64 x.trace,.int .i64 x.id,.int .i64 x.parent,.string x.service,.string x.host,.int .i64 x.start,.int .i64 x.dur,.string x.note] 47 (0,0)):=⟨_,rfl⟩
 have hba:Below w.heap.size w wa:=by rw [hwa];exact (Below.refl _ _).alloc (Nat.le_refl _) _
 have HQa:=Lib.hid (show Blk wa q 47 #[.int .i64 x.trace,.int .i64 x.id,.int .i64 x.parent,.string x.service,.string x.host,.int .i64 x.start,.int .i64 x.dur,.string x.note] by rw [hwa,hq];exact Blk.alloc_new w _ _)
 obtain ⟨X1,hX1⟩:∃ X1,X1=Also X w wa:=⟨_,rfl⟩
 have HOa:=Lib.hid (show HO w0 X1 H wa (.pointer (some ⟨bd,0,none⟩)) d j h lv vs by rw [hX1];exact ho.addX hba)
 have HXX:=Lib.hid (show ∀ k,X k→X1 k by rw [hX1];exact fun k e => .inl e)
 have HHX:=Lib.hid ho.sub
 have HXL:=Lib.hid ho.live.lt
 have HQX:=Lib.hid (show X1 q∧¬ H q from ⟨by rw [hX1,hq];exact .inr ⟨Nat.le_refl _,by rw [hwa];simp⟩,fun e => by have:=(ho.new q e).2;omega⟩)
 have HQW:=Lib.hid (show w.heap.size≤q from by omega)
 have HCa:=Lib.hid (HK.below (X:=X) (H:=H) hba)
 have HWA:=Lib.hid hwa
 have HR:=Lib.hid (hruns_any HOa.out.hs)
 rw [if_pos hrun] at HR
 have HEN:=Lib.hid (fun W:World => hencode_any (w:=W) x hs1 hs2 hs3)
 have HBZ:=Lib.hid (show w0.heap.size≤w.heap.size from ho.live.size)
 have hvs9:vs.length≤1000000:=by rw [ho.rows.len];exact hbd.many
 have hq2:spQ x=(Sp.enc x,0):=by unfold spQ;exact if_pos hm
 rw [hq2] at HEN
 have hel:=Sp.enc_len hm
 obtain ⟨E,hE⟩:∃ E:ByteArray,E=⟨(Sp.enc x).toArray⟩:=⟨_,rfl⟩
 have hEz:E.size=(Sp.enc x).length:=by rw [hE];exact List.size_toArray
 have hEd:E.data.toList=Sp.enc x:=by rw [hE]
 have HFR:=Lib.hid (fun W:World => frame_short E W (by omega))
 rw [hEd] at HFR
 simp only at HEN
 rw [← hE] at HEN
 obtain ⟨F,hF⟩:∃ F:ByteArray,F=⟨(frm x).toArray⟩:=⟨_,rfl⟩
 have hF2:(⟨(Frm.frame (Sp.enc x)).toArray⟩:ByteArray)=F:=by rw [hF];rfl
 rw [hF2] at HFR
 have hFd:F.data.toList=frm x:=by rw [hF]
 have hFl:=frm_len hm
 have hFz:F.size=(frm x).length:=by rw [hF];exact List.size_toArray
 obtain ⟨g',c',sx',sc',ex',ec',hlv',hlp,_,_,hi',hvs'⟩:=ho.last hl
 have HL:=Lib.hid (fun (W:World) (hW:HO w0 X1 H W (.pointer (some ⟨bd,0,none⟩)) d j h lv vs) => by
  have:=hlast_any hW.blk hW.rows hbd.many
  rw [hlp] at this
  exact this)
 have HTC:=Lib.hid (fun (W:World) (y:HO w0 X1 H W (.pointer (some ⟨bd,0,none⟩)) d j h lv vs) => by
  have:=y.cells hlv' init0.length hi'
  rw [hvs'] at this
  exact this)
 obtain ⟨n0,hn0⟩:∃ n0,n0=init0.length:=⟨_,rfl⟩
 obtain ⟨sm,hsm⟩:∃ sm,sm=a.spans.length:=⟨_,rfl⟩
 simp only [← hn0,← hsm] at HL HTC
 have hs16:¬ (sm:Int)<16:=by omega
 have hs16':(16:Int)≤(sm:Int):=by omega
 have HMN:=Lib.hid hmore
 obtain ⟨z,hz⟩:∃ z,z=beginP d h (frm x):=⟨_,rfl⟩
 obtain ⟨r,hh,dd⟩:=z
 have HBG:=Lib.hid (fun (W:World) (hW:HS w0 X1 H W (.pointer (some ⟨bd,0,none⟩)) d j h) => by
  have:=hbegin_any hW he hbd hnx F (by omega)
  rw [hFd,← hz] at this
  exact this)
 obtain ⟨nx,hnn⟩:∃ nx,nx=nextOf h.l:=⟨_,rfl⟩
 have HAPP:=Lib.hid (show (r≠0→appP d h x=(r,hh,dd))∧(r=0→appP d h x=(0,{ hh with l:=pushL hh.l x },dd)∧hh.l=h.l++[⟨nx,[]⟩]) from by
  have e1:appP d h x=if r≠0 then (r,hh,dd) else (0,{ hh with l:=pushL hh.l x },dd):=by
   have hg:h.l.getLast?=some a:=by rw [hl,getLast_snoc]
   unfold appP
   rw [if_neg (fun e => e hm),hg]
   simp only [if_neg h16,← hz]
  refine ⟨fun e => by rw [e1,if_pos e],fun e => ⟨by rw [e1,if_neg (by simp [e])],?_⟩⟩
  exact begin_l hz.symm e hnn)
 have HFE:=Lib.hid (show ((frm x).length:Int)=(F.size:Int) by rw [hFz])
 have HFS:=Lib.hid (show F.size≤120 by omega)
 obtain ⟨tr,id,pa,se,ho',sa,du,no⟩:=x
 unfold spV at HEN ⊢
 simp only at HEN HQa HWA ⊢
 clear h0 hrun he hbd hs1 hs2 hs3 hm ho hwa hba hX1 hq2 hvs9 hE hEz hEd hel hF hF2 hFd hFl hFz hl hz hnx hnn hmore hlv' hlp hi' hvs' hn0 hsm h16
 go_enter Tryz.func20,Tryz.ntmps20
 go_wp2_with fail
 rw [← HWA.out,← hq]
 clear hq
 refine HR.out.mono ?_
 rintro e w1 ⟨rfl,hb1⟩
 have HO1:=Lib.hid (HOa.out.below hb1)
 have HC1:=Lib.hid (HCa.out.trans (HK.below hb1))
 have HQ1:=Lib.hid (HQa.out.below hb1)
 clear hb1
 have a:=HQ1.out.cell 0
 have a1:=HQ1.out.cell 1
 have a2:=HQ1.out.cell 2
 have a3:=HQ1.out.cell 3
 have a4:=HQ1.out.cell 4
 have a5:=HQ1.out.cell 5
 have a6:=HQ1.out.cell 6
 have a7:=HQ1.out.cell 7
 simp at a a1 a2 a3 a4 a5 a6 a7
 go_wp2_with fail
 refine (HEN.out w1).mono ?_
 rintro e w2 ⟨rfl,hb2⟩
 have HO2:=Lib.hid (HO1.out.below hb2)
 have HC2:=Lib.hid (HC1.out.trans (HK.below hb2))
 have HQ2':=Lib.hid (HQ1.out.below hb2)
 clear hb2 a a1 a2 a3 a4 a5 a6 a7
 go_wp2_with fail
 refine (HFR.out w2).mono ?_
 rintro e w3 ⟨rfl,hb3⟩
 have HO3:=Lib.hid (HO2.out.below hb3)
 have HC3:=Lib.hid (HC2.out.trans (HK.below hb3))
 have HQ3:=Lib.hid (HQ2'.out.below hb3)
 clear hb3
 go_wp2_with fail
 refine (HL.out w3 HO3.out).mono ?_
 rintro e w4 ⟨rfl,hb4⟩
 have HO4:=Lib.hid (HO3.out.below hb4)
 have HC4:=Lib.hid (HC3.out.trans (HK.below hb4))
 have HQ4:=Lib.hid (HQ3.out.below hb4)
 clear hb4
 obtain ⟨_,_,p1,_⟩:=HTC.out w4 HO4.out
 go_wp2_with fail
 clear p1
 refine (HBG.out w4 HO4.out.hs).mono ?_
 rintro e w5 ⟨rfl,N1,hN1,hs5,hk5⟩
 have HC5:=Lib.hid (HK.trans HC4.out (HK.wide HXX.out hk5))
 have HQ5:=Lib.hid (HQ4.out.chg hk5 (fun e => e.elim (fun e => e HQX.out.1) HQX.out.2))
 have HQ2:=Lib.hid (show Plus X1 N1 q∧¬ Plus H N1 q from ⟨.inl HQX.out.1,fun e => e.elim HQX.out.2 fun e => by have:=(hN1 q e).1;have:=HQ4.out.lt;omega⟩)
 have HXA:=Lib.hid (show (∀ k,X k→Plus X1 N1 k)∧(∀ (x0:World),w5.heap.size≤x0.heap.size→∀ k,Plus H N1 k→H k∨(w.heap.size≤k∧k<x0.heap.size))∧(∀ k,H k→Plus H N1 k) from ⟨fun k e => .inl (HXX.out k e),fun x0 hx0 k e => e.elim .inl fun e => .inr ⟨Nat.le_trans HC4.out.size (hN1 k e).1,Nat.lt_of_lt_of_le (hN1 k e).2 hx0⟩,fun k e => .inl e⟩)
 by_cases hr0:r=0
 case neg =>
  have t1:(r == 0)=false:=beq_eq_false_iff_ne.2 hr0
  have HV:=Lib.hid (HAPP.out.1 hr0)
  have HS5:=Lib.hid hs5
  clear hs5 hk5
  go_wp2_with fail
  go_ret
  rw [HV.out]
  refine ⟨rfl,N1,fun k hk => ⟨Nat.le_trans HC4.out.size (hN1 k hk).1,(hN1 k hk).2⟩,?_,HC5.out⟩
  obtain ⟨lv5,vs5,ho5⟩:=HS5.out.open_
  exact (ho5.dropX (fun k hk => hk.elim (fun e => .inl (HXX.out k e)) .inr) (fun k hk => hk.elim (fun e => .inl (HHX.out k e)) .inr)).hs
 case pos =>
  subst hr0
  obtain ⟨HV0,HHL⟩:=HAPP.out.2 rfl
  have HV:=Lib.hid HV0
  obtain ⟨lv5,vs5,ho5⟩:=hs5.open_
  obtain ⟨g,c,sx,sc,ex,ec,hlv,hlp,_,_,hi,hvs⟩:=ho5.last HHL
  have HL5:=Lib.hid (show Calls Tryz.prog 77 #[.pointer (some ⟨j,0,none⟩)] w5 fun e w' => e=.returned (.pointer (some ⟨g,h.l.length*3,none⟩))∧Below w5.heap.size w5 w' from by
   have:=hlast_any ho5.blk ho5.rows (by rw [HHL];have:=HMN.out;simp;omega)
   rw [hlp] at this
   exact this)
  obtain ⟨n,hn⟩:∃ n,n=h.l.length:=⟨_,rfl⟩
  obtain ⟨sn,hsn⟩:∃ sn:Nat,sn=([]:List Sp.Span).length:=⟨_,rfl⟩
  have HLL:=Lib.hid (show hh.l=h.l++[⟨nx,[]⟩]∧n=h.l.length∧lv5=.slice (some ⟨g,0,none⟩) (n+1) c∧∃ hi:n<vs5.length,vs5[n]=⟨nx,.slice sx sn sc,.slice ex sn ec⟩ by subst hn;subst hsn;exact ⟨HHL,rfl,hlv,hi,hvs⟩)
  have HO5:=Lib.hid ho5
  rw [← hn] at HL5
  have HBS:=Lib.hid (show (∀ y∈([]:List Sp.Span),Sp.May y)∧([]:List Sp.Span).length≤1000000 from ⟨fun y hy => (by cases hy),by simp⟩)
  obtain ⟨xs,hxs⟩:∃ xs:List Sp.Span,xs=[]:=⟨_,rfl⟩
  rw [← hxs] at HLL HBS
  obtain ⟨init,hin⟩:∃ init,init=h.l:=⟨_,rfl⟩
  obtain ⟨fn,hfn⟩:∃ fn,fn=nx:=⟨_,rfl⟩
  rw [← hin,← hfn] at HLL
  have HW:=Lib.hid (show ({ hh with l:=init++[⟨fn,xs++[⟨tr,id,pa,se,ho',sa,du,no⟩]⟩] }:Hl)={ hh with l:=pushL hh.l ⟨tr,id,pa,se,ho',sa,du,no⟩ } by rw [HHL,pushL_snoc,hin,hfn,hxs])
  rw [← HW.out] at HV
  clear hs5 hk5 hN1 HV0 HHL ho5 hlv hlp hi hvs hn hsn hxs hin hfn
  go_wp2_with fail
  refine HL5.out.mono ?_
  rintro e w6 ⟨rfl,hb6⟩
  have HO6:=Lib.hid (HO5.out.below hb6)
  have HC6:=Lib.hid (HC5.out.trans (HK.below hb6))
  have HQ6:=Lib.hid (HQ5.out.below hb6)
  have HZ56:=Lib.hid hb6.size
  clear hb6
  go_wp2_with fail
  obtain ⟨x0,hx0⟩:∃ x0,x0=(w6).drew:=⟨_,rfl⟩
  have hb01:Below (w6).heap.size w6 x0:=by rw [hx0];exact (Below.refl _ _).drew
  have HO0:=Lib.hid (HO.below HO6.out hb01)
  have HC0:=Lib.hid (HK.trans HC6.out (HK.below hb01))
  have HQ0:=Lib.hid (Blk.below HQ6.out hb01)
  have HBZ:=Lib.hid (show w0.heap.size≤x0.heap.size from HO0.out.live.size)
  obtain ⟨hll,hnn,hlv,hii,hvs⟩:=HLL.out
  have hsg:SegAt w0.heap.size x0 ⟨fn,.slice sx sn sc,.slice ex sn ec⟩ ⟨fn,xs⟩:=by
   have h5:=HO0.out.rows.each n hii (by rw [hll,hnn];simp)
   rw [hvs] at h5
   have e5:(hh.l)[n]'(by rw [hll,hnn];simp)=⟨fn,xs⟩:=by simp [hll,hnn]
   rw [e5] at h5
   exact h5
  have HPx0:=Lib.hid (show Pend w0 x0 x0 (.slice sx sn sc) (.slice ex sn ec) xs ⟨tr,id,pa,se,ho',sa,du,no⟩ none none from Pend.start hsg.spans hsg.ends)
  have HSV:=Lib.hid (fun k (hk:(Value.slice sx sn sc).ownBlock=some k) => (OwnRow.lt hsg.spans k hk).2)
  have HEV:=Lib.hid (fun k (hk:(Value.slice ex sn ec).ownBlock=some k) => (hsg.ends.lt' k hk).2)
  have HTT:=Lib.hid (fun (V:World) (hV:Chg (fun k => (Value.slice sx sn sc).ownBlock=some k∨(Value.slice ex sn ec).ownBlock=some k) x0 V) => show V.cell? ⟨q,0,none⟩=some (.int .i64 tr)∧V.cell? ⟨q,1,none⟩=some (.int .i64 id)∧V.cell? ⟨q,2,none⟩=some (.int .i64 pa)∧V.cell? ⟨q,3,none⟩=some (.string se)∧V.cell? ⟨q,4,none⟩=some (.string ho')∧V.cell? ⟨q,5,none⟩=some (.int .i64 sa)∧V.cell? ⟨q,6,none⟩=some (.int .i64 du)∧V.cell? ⟨q,7,none⟩=some (.string no) from by
   have k:=HQ0.out.chg hV (fun e => HQ2.out.2 (HO0.out.inSeg hii hvs e))
   exact ⟨k.cell 0,k.cell 1,k.cell 2,k.cell 3,k.cell 4,k.cell 5,k.cell 6,k.cell 7⟩)
  have HSS:=Lib.hid (fun (V:World) (hV:Chg (fun k => (Value.slice sx sn sc).ownBlock=some k∨(Value.slice ex sn ec).ownBlock=some k) x0 V) => (HO0.out.still hlv hii hvs hV).1)
  have HFZ:=Lib.hid (fun (V:World) (hV:Chg (fun k => (Value.slice sx sn sc).ownBlock=some k∨(Value.slice ex sn ec).ownBlock=some k) x0 V) => (HO0.out.still hlv hii hvs hV).2)
  have HTS:=Lib.hid (fun (V V2:World) (hV:Chg (fun k => (Value.slice sx sn sc).ownBlock=some k∨(Value.slice ex sn ec).ownBlock=some k) x0 V) (hV2:Chg (fun k => k=g) V V2) => show V2.cell? ⟨q,0,none⟩=some (.int .i64 tr)∧V2.cell? ⟨q,1,none⟩=some (.int .i64 id)∧V2.cell? ⟨q,2,none⟩=some (.int .i64 pa)∧V2.cell? ⟨q,3,none⟩=some (.string se)∧V2.cell? ⟨q,4,none⟩=some (.string ho')∧V2.cell? ⟨q,5,none⟩=some (.int .i64 sa)∧V2.cell? ⟨q,6,none⟩=some (.int .i64 du)∧V2.cell? ⟨q,7,none⟩=some (.string no) from by
   have k:=(HQ0.out.chg hV (fun e => HQ2.out.2 (HO0.out.inSeg hii hvs e))).chg hV2 (fun e => HQ2.out.2 (HO0.out.inH q (.inr (.inl (by rw [hlv,e];rfl)))))
   exact ⟨k.cell 0,k.cell 1,k.cell 2,k.cell 3,k.cell 4,k.cell 5,k.cell 6,k.cell 7⟩)
  have HFN:=Lib.hid (fun (V:World) (u1 u2:Value) (hp:Pend w0 x0 V (.slice sx sn sc) (.slice ex sn ec) xs ⟨tr,id,pa,se,ho',sa,du,no⟩ (some u1) (some u2)) (V2:World) (hV2:V2=(V.setCell ⟨g,n*3+1,none⟩ u1).setCell ⟨g,n*3+2,none⟩ u2) => show HPost w0 X H w (.pointer (some ⟨bd,0,none⟩)) dd j { hh with l:=init++[⟨fn,xs++[⟨tr,id,pa,se,ho',sa,du,no⟩]⟩] } V2 from by
   obtain ⟨N,vs',hN,hO,hKK⟩:=HO0.out.finish' hll hnn hlv hii hvs hp hV2
   exact HO.post HXA.out.1 (HXA.out.2.1 x0 (by have:=HZ56.out;have:=hb01.size;omega)) HHX.out HXA.out.2.2 HXL.out HC0.out HO0.out.sub hN hO hKK)
  have HMX:=Lib.hid (show ∀ y∈xs,Sp.May y from fun y hy => HBS.out.1 y hy)
  have HXN:=Lib.hid (HBS.out.2)
  have htl:=(sgT_len xs HMX.out).2
  have HTL:=Lib.hid (show (sgT xs).length≤1000000000 by have:=HXN.out;omega)
  obtain ⟨tot,htot⟩:∃ tot,tot=(sgT xs).length+F.size:=⟨_,rfl⟩
  have hadd:((sgT xs).length:Int)+(F.size:Int)=(tot:Int):=by omega
  have hwr:IntKind.i64.wrap (tot:Int)=tot:=by rw [IntKind.wrap_i64];have:=HTL.out;have:=HFS.out;omega
  have HEQ:=Lib.hid (show sgEnds (xs++[⟨tr,id,pa,se,ho',sa,du,no⟩])=sgEnds xs++[(tot:Int)] by rw [sgEnds_snoc,HFE.out,hadd])
  have hT:=HTT.out x0 (Chg.refl _ _)
  have hS:=HSS.out x0 (Chg.refl _ _)
  clear hll hnn hlv hii hvs hsg htl htot hb01
  refine wp_region_two (T:=fun W => W.cell? ⟨q,0,none⟩=some (.int .i64 tr)∧W.cell? ⟨q,1,none⟩=some (.int .i64 id)∧W.cell? ⟨q,2,none⟩=some (.int .i64 pa)∧W.cell? ⟨q,3,none⟩=some (.string se)∧W.cell? ⟨q,4,none⟩=some (.string ho')∧W.cell? ⟨q,5,none⟩=some (.int .i64 sa)∧W.cell? ⟨q,6,none⟩=some (.int .i64 du)∧W.cell? ⟨q,7,none⟩=some (.string no)) (S:=fun W => W.cell? ⟨g,n*3,none⟩=some (.int .i64 fn)∧W.cell? ⟨g,n*3+1,none⟩=some (.slice sx sn sc)∧W.cell? ⟨g,n*3+2,none⟩=some (.slice ex sn ec)) (n:=24) (by kernel_rfl) ?_
  rw [← hx0]
  clear hx0
  refine tk 0 63 hT hS ?_
  refine tk 1 64 hT hS ?_
  refine tk 2 65 hT hS ?_
  refine tk 3 66 hT hS ?_
  refine tk 4 67 hT hS ?_
  try simp only [xq]
  refine two_take 5 (some 68) (v:=?_) rfl rfl (by kernel_rfl) (by kernel_rfl) (by kernel_rfl) (by kernel_rfl) (by decide) (by kernel_rfl) (fun _ _ _ h => h) (Or.inl ⟨by rfl,?hy5⟩) hT hS ?_
  case hy5 => (intro w' hS';go_simp;(try with_reducible rfl))
  try simp only [xq]
  refine tk 6 69 hT hS ?_
  refine tk 9 72 hT hS ?_
  refine tk 10 73 hT hS ?_
  refine tk 11 74 hT hS ?_
  try simp only [xq]
  refine two_take 12 (some 75) (v:=?_) rfl rfl (by kernel_rfl) (by kernel_rfl) (by kernel_rfl) (by kernel_rfl) (by decide) (by kernel_rfl) (fun _ _ _ h => h) (Or.inl ⟨by rfl,?hy12⟩) hT hS ?_
  case hy12 => (intro w' hS';go_simp;(try with_reducible rfl))
  try simp only [xq]
  refine tk 13 76 hT hS ?_
  refine tk 14 77 hT hS ?_
  try simp only [xq]
  refine two_take 15 (some 78) (v:=?_) rfl rfl (by kernel_rfl) (by kernel_rfl) (by kernel_rfl) (by kernel_rfl) (by decide) (by kernel_rfl) (fun _ _ _ h => h) (Or.inl ⟨by rfl,?hy15⟩) hT hS ?_
  case hy15 => (intro w' hS';go_simp;(try with_reducible rfl))
  try simp only [xq]
  refine tk 17 80 hT hS ?_
  refine tk 18 81 hT hS ?_
  try simp only [xq]
  refine two_one 7 rfl (by kernel_rfl) ?_
  intro K hK
  go_simp
  obtain ⟨y0,hy0⟩:∃ y,y=x0.alloc (.cells #[.int .i64 tr,.int .i64 id,.int .i64 pa,.string se,.string ho',.int .i64 sa,.int .i64 du,.string no] 47 (0,0)):=⟨_,rfl⟩
  rw [← hy0]
  have hby0:Below x0.heap.size x0 y0:=by rw [hy0];exact (Below.refl _ _).alloc (Nat.le_refl _) _
  have HAy0:=Lib.hid (show Blk y0 x0.heap.size 47 #[.int .i64 tr,.int .i64 id,.int .i64 pa,.string se,.string ho',.int .i64 sa,.int .i64 du,.string no] by rw [hy0];exact Blk.alloc_new x0 _ _)
  have HAZ:=Lib.hid (show x0.heap.size≤x0.heap.size from HPx0.out.size)
  have HPy0:=Lib.hid (HPx0.out.below hby0)
  clear hy0 hby0
  have hT1:=HTT.out y0 HPy0.out.chg
  have hS1:=HSS.out y0 HPy0.out.chg
  refine hK.out _ _ hT1 (fun _ _ => hS1) ?_
  clear hK K hT hS
  have hT:=hT1
  have hS:=hS1
  clear hT1 hS1
  try simp only [xq]
  refine two_one 8 rfl (by kernel_rfl) ?_
  intro K hK
  refine step_append_rows rfl (.tmp 68) (.tmp 70) (by rfl) spRow_len (by omega) under_spans Tryz.info_span rfl (by omega) (show OwnSp y0 w0.heap.size (.slice sx sn sc) xs from HPy0.out.sp) (by rfl) (m:=[⟨tr,id,pa,se,ho',sa,du,no⟩]) (by rfl) (RdRow.one HAy0.out rfl) (fun a _ => spRow_one a) (by have:=HXN.out;simp;omega) (by have:=HXN.out;simp;omega) (Nat.le_trans HBZ.out HPy0.out.size) ?_
  intro u1 y1 hown hgr hb
  have HPy1:=Lib.hid (HPy0.out.spans hown hgr hb)
  obtain ⟨u1x,u1c,hu⟩:=OwnRow.shape hown
  obtain ⟨u1n,hun⟩:∃ u1n,u1n=(xs++[(⟨tr,id,pa,se,ho',sa,du,no⟩:Sp.Span)]).length:=⟨_,rfl⟩
  rw [← hun] at hu
  subst hu
  clear hown hgr hb hun
  have hT1:=HTT.out y1 HPy1.out.chg
  have hS1:=HSS.out y1 HPy1.out.chg
  refine hK.out _ _ hT1 (fun _ _ => hS1) ?_
  clear hK K hT hS
  have hT:=hT1
  have hS:=hS1
  clear hT1 hS1
  try simp only [xq]
  refine two_one 16 rfl (by kernel_rfl) ?_
  intro K hK
  go_simp
  refine (segEnd_any (w:=y1) (n:=fn) sx sn sc (show OwnI y1 w0.heap.size (.slice ex sn ec) (sgEnds xs) from HPy1.out.en) HMX.out HTL.out).mono ?_
  rintro e y2 ⟨rfl,hb⟩
  have HPy2:=Lib.hid (HPy1.out.below hb)
  clear hb
  have hT1:=HTT.out y2 HPy2.out.chg
  have hS1:=HSS.out y2 HPy2.out.chg
  refine hK.out _ _ hT1 (fun _ _ => hS1) ?_
  clear hK K hT hS
  have hT:=hT1
  have hS:=hS1
  clear hT1 hS1
  try simp only [xq]
  refine tk 19 82 hT hS ?_
  try simp only [xq]
  refine two_one 20 rfl (by kernel_rfl) ?_
  intro K hK
  go_simp
  obtain ⟨y3,hy3⟩:∃ y,y=y2.alloc (.cells #[.int .i64 tot] 3 (0,0)):=⟨_,rfl⟩
  rw [← hy3]
  have hby3:Below y2.heap.size y2 y3:=by rw [hy3];exact (Below.refl _ _).alloc (Nat.le_refl _) _
  have HIy3:=Lib.hid (show Blk y3 y2.heap.size 3 #[.int .i64 tot] by rw [hy3];exact Blk.alloc_new y2 _ _)
  have HIZ:=Lib.hid (show x0.heap.size≤y2.heap.size from HPy2.out.size)
  have HPy3:=Lib.hid (HPy2.out.below hby3)
  clear hy3 hby3
  have hT1:=HTT.out y3 HPy3.out.chg
  have hS1:=HSS.out y3 HPy3.out.chg
  refine hK.out _ _ hT1 (fun _ _ => hS1) ?_
  clear hK K hT hS
  have hT:=hT1
  have hS:=hS1
  clear hT1 hS1
  try simp only [xq]
  refine two_one 21 rfl (by kernel_rfl) ?_
  intro K hK
  refine step_append_rows rfl (.tmp 75) (.tmp 83) (by rfl) iRow_len (by omega) under_ints Tryz.info_int rfl (by omega) (ownI_row (show OwnI y3 w0.heap.size (.slice ex sn ec) (sgEnds xs) from HPy3.out.en)) (by rfl) (m:=[(tot:Int)]) (by rfl) (RdRow.one HIy3.out rfl) (fun a _ u hu => iRow_one a u hu) (by rw [sgEnds_length];have:=HXN.out;simp;omega) (by rw [sgEnds_length];have:=HXN.out;simp;omega) (Nat.le_trans HBZ.out HPy3.out.size) ?_
  intro u2 y4 hown hgr hb
  have hown2:OwnI y4 w0.heap.size u2 (sgEnds (xs++[⟨tr,id,pa,se,ho',sa,du,no⟩])):=by rw [HEQ.out];exact ownI_of hown
  have HPy4:=Lib.hid (HPy3.out.ends hown2 hgr hb)
  obtain ⟨u2x,u2c,hu⟩:=OwnRow.shape hown
  obtain ⟨u2n,hun⟩:∃ u2n,u2n=(sgEnds xs++[(tot:Int)]).length:=⟨_,rfl⟩
  rw [← hun] at hu
  subst hu
  clear hown hown2 hgr hb hun
  have hT1:=HTT.out y4 HPy4.out.chg
  have hS1:=HSS.out y4 HPy4.out.chg
  refine hK.out _ _ hT1 (fun _ _ => hS1) ?_
  clear hK K hT hS
  have hT:=hT1
  have hS:=hS1
  clear hT1 hS1
  try simp only [xq]
  refine tk 22 85 hT hS ?_
  refine tk 23 86 hT hS ?_
  try simp only [xq]
  obtain ⟨f1,f2⟩:=HFZ.out y4 HPy4.out.chg
  refine two_one 24 rfl (by kernel_rfl) ?_
  intro K hK
  go_simp
  obtain ⟨z1,hz1⟩:∃ z1,z1=y4.setCell ⟨g,n*3+1,none⟩ (.slice u1x u1n u1c):=⟨_,rfl⟩
  rw [← hz1]
  have hT1:=HTS.out y4 z1 HPy4.out.chg (by rw [hz1];exact (Chg.refl (fun k => k=g) y4).setCell (p:=⟨g,_,none⟩) (fun _ => rfl) _)
  have f3:z1.frozen? ⟨g,n*3+2,none⟩=false:=by rw [hz1];simpa using f2
  have c3:z1.cell? ⟨g,n*3+2,none⟩=some (.slice ex sn ec):=by rw [hz1];exact (World.cell?_setCell_other _ _ _ _ (by intro e;injection e with _ e _;omega)).trans hS.2.2
  refine hK.out _ _ hT1 (fun _ e => absurd rfl e) ?_
  have HZ1:=Lib.hid hz1
  clear hK K hT hS f1 f2 hz1
  have hT:=hT1
  clear hT1
  try simp only [xq]
  refine two_one 25 rfl (by kernel_rfl) ?_
  intro K hK
  go_simp
  refine hK.out _ _ hT (fun e _ => by exact absurd e (by decide)) ?_
  clear hK K
  try simp only [xq]
  refine two_one 26 rfl (by kernel_rfl) ?_
  intro K hK
  go_simp
  refine hK.out _ _ hT (fun e _ => by exact absurd e (by decide)) ?_
  clear hK K
  try simp only [xq]
  refine two_one 27 rfl (by kernel_rfl) ?_
  intro K hK
  go_simp
  obtain ⟨z2,hz2⟩:∃ z2,z2=z1.setCell ⟨g,n*3+2,none⟩ (.slice u2x u2n u2c):=⟨_,rfl⟩
  rw [← hz2]
  have hT2:=HTS.out y4 z2 HPy4.out.chg (by rw [hz2,HZ1.out];exact ((Chg.refl (fun k => k=g) y4).setCell (p:=⟨g,_,none⟩) (fun _ => rfl) _).setCell (p:=⟨g,_,none⟩) (fun _ => rfl) _)
  have HZZ:=Lib.hid (HFN.out y4 _ _ HPy4.out z2 (by rw [hz2,HZ1.out]))
  refine hK.out _ _ hT2 (fun e _ => by exact absurd e (by decide)) ?_
  clear hK K hT hT2 f3 c3 hz2
  try simp only [xq]
  refine two_done (by kernel_rfl) ?_ _
  go_wp2_with fail
  go_ret
  rw [HV.out]
  exact ⟨rfl,HZZ.out⟩
theorem happend_any (h0:HS w0 X H w v d j h) (hrun:h.runs d) (he:LEnv w0) (hbd:SgsBnd h.l) (hmore:h.l.length<1000000) (hnx:nextOf h.l≤999999999) (x:Sp.Span) (hs1:x.service.size≤maxLen) (hs2:x.host.size≤maxLen) (hs3:x.note.size≤maxLen) :
  Calls Tryz.prog 20 #[.pointer (some ⟨j,0,none⟩),spV x] w fun e w' => e=.returned (.int .i64 (appP d h x).1)∧HPost w0 X H w v (appP d h x).2.2 j (appP d h x).2.1 w':=by
 by_cases hm:Sp.May x
 · rcases List.eq_nil_or_concat h.l with hl | ⟨init,a,hl⟩
   · exact happend_nil h0 hrun he hbd hmore hnx x hs1 hs2 hs3 hm hl
   · rw [List.concat_eq_append] at hl
     by_cases h16:a.spans.length<16
     · exact happend_in h0 hrun he hbd x hs1 hs2 hs3 hm hl h16
     · exact happend_new h0 hrun he hbd hmore hnx x hs1 hs2 hs3 hm hl h16
 · exact happend_bad h0 hrun he hbd x hs1 hs2 hs3 hm
end
end Go.Proofs.YtdacanghbepjpaaGreatDoor
