/- A host's log: so many segments stay: walked. -/
import Derived.Test.YtdacanghbepjpaaGreatDoorHlX
import Derived.Test.YtdacanghbepjpaaGreatDoorHlS
namespace Go.Proofs.YtdacanghbepjpaaGreatDoor
set_option linter.unusedSimpArgs false
set_option linter.unusedVariables false
set_option maxRecDepth 100000
open Go.RowKit Go.Maps
open Dsk
section
variable {w0 w w':World} {X H S:Nat→Prop} {v lv:Value} {d d':Dk} {j B:Nat} {h:Hl} {vs:List SegV} {l:List Sg}
def lenCell (w:World) (j:Nat):Nat:=match w.cell? ⟨j,3,none⟩ with
 | some (.slice _ n _) => n
 | _ => 0
theorem HO.lenCell (h0:HO w0 X H w v d j h lv vs):lenCell w j=vs.length:=by
 obtain ⟨x,c,rfl⟩:=h0.rows.row.shape
 unfold YtdacanghbepjpaaGreatDoor.lenCell
 have c3:w.cell? ⟨j,3,none⟩=some (.slice x vs.length c):=h0.blk.cell 3
 rw [c3]
theorem retL_stop {n:Nat} (h:¬ n<l.length):retL n d l=(0,l,d):=by
 cases l with
 | nil => rfl
 | cons a r => unfold retL;rw [if_neg h]
theorem retL_go {n:Nat} {a:Sg} {r:List Sg} (h:n<(a::r).length) {z:Int×Dk} (hz:z=d.remove (ln a.first)):retL n d (a::r)=if z.1≠0 then (z.1,a::r,z.2) else retL n z.2 r:=by
 subst hz
 rw [retL,if_pos h]
set_option maxHeartbeats 16000000 in
theorem hretain_any (h0:HS w0 X H w v d j h) (hrun:h.runs d) (he:LEnv w0) (hbd:SgsBnd h.l) (n:Int) :
  Calls Tryz.prog 90 #[.pointer (some ⟨j,0,none⟩),.int .i64 n] w fun e w' => e=.returned (.int .i64 (retP n d h).1)∧HPost w0 X H w v (retP n d h).2.2 j (retP n d h).2.1 w':=by
 have HR:=Lib.hid (hruns_any h0)
 rw [if_pos hrun] at HR
 have HH:=Lib.hid h0
 have HXL:=Lib.hid (show ∀ k,X k→k<w.heap.size from h0.live.lt)
 have HHX:=Lib.hid h0.sub
 have HE:=Lib.hid he
 have HBD:=Lib.hid hbd
 obtain ⟨bd,rfl⟩:=h0.ptr
 by_cases hn1:n<1
 · have hq:retP n d h=(2,h,d):=by unfold retP;rw [if_pos hn1]
   rw [hq]
   clear h0 hrun he hbd hq
   go_enter Tryz.func90,Tryz.ntmps90
   go_wp2_with fail
   refine HR.out.mono ?_
   rintro e w1 ⟨rfl,hb1⟩
   have HB:=Lib.hid hb1
   clear hb1
   go_wp2_with fail
   go_ret
   exact ⟨rfl,HPost.same (HH.out.below HB.out) (HK.below HB.out)⟩
 · obtain ⟨m,hm⟩:∃ m,m=n.toNat:=⟨_,rfl⟩
   obtain ⟨R,hR⟩:∃ R,R=retL m d h.l:=⟨_,rfl⟩
   have hq:retP n d h=(R.1,{ h.told R.1 with l:=R.2.1 },R.2.2):=by unfold retP;rw [if_neg hn1,← hm,← hR]
   rw [hq]
   have hmn:n=(m:Int):=by omega
   subst hmn
   have HRR:=Lib.hid hR
   clear h0 hrun he hbd hq hR hm
   go_enter Tryz.func90,Tryz.ntmps90
   go_wp2_with fail
   refine HR.out.mono ?_
   rintro e w1 ⟨rfl,hb1⟩
   have HB:=Lib.hid hb1
   clear hb1
   go_wp2_with fail
   go_loopw [6] (fun _ wr => ∃ (l:List Sg) (dd:Dk),HPost w0 X H w (.pointer (some ⟨bd,0,none⟩)) dd j { h with l:=l } wr∧R=retL m dd l∧(∀ a∈l,a∈h.l)∧l.length≤1000000) (fun _ wr => lenCell wr j)
   case atStart => exact ⟨h.l,d,HPost.same (HH.out.below HB.out) (HK.below HB.out),HRR.out,fun a e => e,HBD.out.many⟩
   case round =>
    obtain ⟨l,dd,hp,hrest,hsub,hl9⟩:=hrel
    have HP:=Lib.hid hp
    have HRE:=Lib.hid hrest
    have HSU:=Lib.hid hsub
    obtain ⟨N,hN,hs,hk⟩:=hp
    obtain ⟨lv,vs,ho⟩:=hs.open_
    have HO0:=Lib.hid ho
    have HN0:=Lib.hid hN
    have HC0:=Lib.hid hk
    have HLC:=Lib.hid ho.lenCell
    obtain ⟨lx,lc,hlx⟩:=ho.rows.row.shape
    have hvl:=ho.rows.len
    subst hlx
    have g3:wr.cell? ⟨j,3,none⟩=some (.slice lx vs.length lc):=ho.blk.cell 3
    simp only at hvl
    by_cases hlt:m<vs.length
    · obtain ⟨s,vr,rfl⟩:∃ s vr,vs=s::vr:=by
       cases vs with
       | nil => simp at hlt
       | cons s vr => exact ⟨s,vr,rfl⟩
      obtain ⟨a,r,rfl⟩:∃ a r,l=a::r:=by
       cases l with
       | nil => simp at hvl
       | cons a r => exact ⟨a,r,rfl⟩
      obtain ⟨g,c,hlv,_,_,_,_⟩:=ho.rows.row.at_ segRow_len 0 (by simp)
      injection hlv with e1 e2 e3
      subst e1
      obtain ⟨sv,ev,hse⟩:∃ sv ev,s=⟨a.first,sv,ev⟩:=by
       have:=(ho.rows.each 0 (by simp) (by simp)).first
       simp at this
       exact ⟨s.sv,s.ev,by rw [← this]⟩
      subst hse
      obtain ⟨sx,sc,hsv⟩:=OwnRow.shape (ho.rows.each 0 (by simp) (by simp)).spans
      obtain ⟨ex,en,ec,hev⟩:∃ x2 n2 c2,ev=.slice x2 n2 c2:=by
       rcases (ho.rows.each 0 (by simp) (by simp)).ends.2 with ⟨e,_⟩ | ⟨g,cap,cur,e,_⟩
       · exact ⟨_,_,_,e⟩
       · exact ⟨_,_,_,e⟩
      simp at hsv
      subst hsv hev
      have hf9:=HBD.out.first a (hsub a (by simp))
      have HNM:=Lib.hid (fun (W:World) (hW:Below w0.heap.size w0 W) => segName_any (HE.out.below hW) hf9 sx ex a.spans.length sc en ec)
      unfold segVal at HNM
      obtain ⟨z,hz⟩:∃ z,z=dd.remove (ln a.first):=⟨_,rfl⟩
      have hgo:=retL_go (n:=m) (d:=dd) (a:=a) (r:=r) (by rw [← hvl];exact hlt) hz
      obtain ⟨rr,d1⟩:=z
      simp only at hgo
      have HGO:=Lib.hid (hrest.trans hgo)
      have HRM:=Lib.hid (fun (W:World) (hW:Live w0 (Plus X N) W (.pointer (some ⟨bd,0,none⟩)) dd) => hW.removeK (lnB a.first) (lnB_data _) hz.symm (by have:=lnB_size hf9;omega))
      obtain ⟨vn,hvn⟩:∃ vn,vn=vr.length+1:=⟨_,rfl⟩
      have HVN:=Lib.hid hvn
      have HTC:=Lib.hid (fun (W:World) (D:Dk) (hh:Hl) (x:HO w0 (Plus X N) (Plus H N) W (.pointer (some ⟨bd,0,none⟩)) D j hh (.slice (some ⟨g,0,none⟩) vn lc) (⟨a.first,.slice sx a.spans.length sc,.slice ex en ec⟩::vr)) => show W.cell? ⟨j,0,none⟩=some (.pointer (some ⟨bd,0,none⟩))∧W.cell? ⟨j,3,none⟩=some (.slice (some ⟨g,0,none⟩) vn lc)∧W.cell? ⟨g,0,none⟩=some (.int .i64 a.first)∧W.cell? ⟨g,1,none⟩=some (.slice sx a.spans.length sc)∧W.cell? ⟨g,2,none⟩=some (.slice ex en ec) by
       have:=x.cells rfl 0 (by simp)
       exact ⟨this.1,x.blk.cell 3,this.2.1,this.2.2.1,this.2.2.2⟩)
      obtain ⟨fn,hfn⟩:∃ fn,fn=a.first:=⟨_,rfl⟩
      obtain ⟨sn,hsn⟩:∃ sn,sn=a.spans.length:=⟨_,rfl⟩
      simp only [List.length_cons] at HO0 hlt g3 hvl HLC
      rw [← hvn] at HO0 hlt g3 hvl HLC
      simp only [← hfn,← hsn] at HNM HTC HO0 HRM
      have hlt2:(m:Int)<(vn:Int):=by omega
      have hv0:(0:Int)<(vn:Int):=by omega
      have hv0':0<vn:=by omega
      have hv1':1≤vn:=by omega
      have hvc:vn≤lc:=by
       obtain ⟨_,c2,e,hc2,_⟩:=HO0.out.rows.row.at_ segRow_len 0 (by simp)
       injection e with _ _ e
       rw [e,hvn];simpa using hc2
      have HL9:=Lib.hid (show vr.length≤999999∧vr.length=r.length by simp only [List.length_cons] at hl9;omega)
      clear hrest hsub hN hs hk ho hz hgo hf9 hfn hsn hvn e2 e3 hl9
      go_wp2_with fail
      have HPP:=Lib.hid (fun (W2:World) (dd2:Dk) (h2:Hl) (hh:HPost w0 (Plus X N) (Plus H N) wr (.pointer (some ⟨bd,0,none⟩)) dd2 j h2 W2) => show HPost w0 X H w (.pointer (some ⟨bd,0,none⟩)) dd2 j h2 W2 from by
       obtain ⟨Nf,hN,hs,hk⟩:=hh
       obtain ⟨lv2,vs2,ho⟩:=hs.open_
       exact HO.post (fun k e => .inl e) (fun k e => e.elim .inl fun e => .inr (HN0.out k e)) HHX.out (fun k e => .inl e) HXL.out HC0.out HO0.out.sub hN ho hk)
      refine wp_region_two (T:=fun W => W.cell? ⟨j,0,none⟩=some (.pointer (some ⟨bd,0,none⟩))∧W.cell? ⟨j,3,none⟩=some (.slice (some ⟨g,0,none⟩) vn lc)∧W.cell? ⟨g,0,none⟩=some (.int .i64 fn)∧W.cell? ⟨g,1,none⟩=some (.slice sx sn sc)∧W.cell? ⟨g,2,none⟩=some (.slice ex en ec)) (S:=fun _ => True) (n:=99) (by kernel_rfl) ?_
      obtain ⟨y1,hy1⟩:∃ y1,y1=wr.drew:=⟨_,rfl⟩
      rw [← hy1]
      have hby:Below wr.heap.size wr y1:=by rw [hy1];exact (Below.refl _ _).drew
      have HOy1:=Lib.hid (HO.below HO0.out hby)
      have HCy1:=Lib.hid (show HK (Plus X N) (Plus H N) wr y1 from HK.below hby)
      have hS:True:=trivial
      have hT:=HTC.out y1 _ _ HOy1.out
      clear hy1 hby
      refine tk 0 21 hT hS ?_
      refine tk 1 22 hT hS ?_
      refine tk 2 23 hT hS ?_
      refine tk 3 24 hT hS ?_
      refine tk 4 25 hT hS ?_
      refine tk 5 26 hT hS ?_
      refine tk 6 27 hT hS ?_
      refine tk 7 28 hT hS ?_
      refine tk 8 29 hT hS ?_
      refine tk 9 30 hT hS ?_
      refine tk 10 31 hT hS ?_
      try simp only [xq]
      refine two_one 11 rfl (by kernel_rfl) ?_
      intro K hK
      go_simp
      refine (HNM.out y1 (HOy1.out.live.below)).mono ?_
      rintro e y2 ⟨rfl,hbz⟩
      have HOy2:=Lib.hid (HO.below HOy1.out hbz)
      have HCy2:=Lib.hid (HK.trans HCy1.out (HK.below hbz))
      have hT1:=HTC.out y2 _ _ HOy2.out
      refine hK.out _ _ hT1 (fun _ _ => hS) ?_
      clear hK K hT hbz
      have hT:=hT1
      clear hT1
      try simp only [xq]
      refine two_one 12 rfl (by kernel_rfl) ?_
      intro K hK
      go_simp
      refine (HRM.out y2 HOy2.out.live).mono ?_
      rintro e y3 ⟨rfl,hlz,hkz⟩
      have HOy3:=Lib.hid (HO.turn HOy2.out hlz hkz)
      have HCy3:=Lib.hid (HK.trans HCy2.out (HK.keeps hkz))
      have hT1:=HTC.out y3 _ _ HOy3.out
      refine hK.out _ _ hT1 (fun _ _ => hS) ?_
      clear hK K hT hlz hkz
      have hT:=hT1
      clear hT1
      try simp only [xq]
      refine two_one 13 rfl (by kernel_rfl) ?_
      intro K hK
      go_simp
      refine (hdoes_at HOy3.out _).mono ?_
      rintro e y4 ⟨rfl,hoz,hkz⟩
      have HOy4:=Lib.hid hoz
      have HCy4:=Lib.hid (HK.trans HCy3.out hkz)
      have hT1:=HTC.out y4 _ _ HOy4.out
      refine hK.out _ _ hT1 (fun _ _ => hS) ?_
      clear hK K hT hoz hkz
      have hT:=hT1
      clear hT1
      try simp only [xq]
      refine tk 14 6 hT hS ?_
      try simp only [xq]
      refine two_done (by kernel_rfl) ?_ _
      clear hT hS
      by_cases hr0:rr=0
      case neg =>
       have t1:(rr == 0)=false:=beq_eq_false_iff_ne.2 hr0
       have HV:=Lib.hid (HGO.out.trans (if_pos hr0))
       go_wp2_with fail
       go_ret
       rw [HV.out]
       exact ⟨rfl,HPP.out _ _ _ (HPost.same HOy4.out.hs HCy4.out)⟩
      case pos =>
       subst hr0
       have HV:=Lib.hid (HGO.out.trans (if_neg (by simp)))
       have HO5:=Lib.hid (show HO w0 (Plus X N) (Plus H N) y4 (.pointer (some ⟨bd,0,none⟩)) d1 j { h with l:=a::r } (.slice (some ⟨g,0,none⟩) vn lc) (⟨fn,.slice sx sn sc,.slice ex en ec⟩::vr) from by have:=HOy4.out;rw [told_zero] at this;exact this)
       have g4:y4.cell? ⟨j,3,none⟩=some (.slice (some ⟨g,0,none⟩) vn lc):=HO5.out.blk.cell 3
       have f4:=HO5.out.blk.free 3
       clear g3
       go_wp2_with fail
       have HCL:=hclone_any (RdRow.tail (HO5.out.rows.row.rd segRow_len)) (by have:=HL9.out;omega) (fun y hy => HO5.out.rows.oks y (List.mem_cons_of_mem _ hy))
       rw [show (0+1*3:Nat)=3 from rfl,show vn-1=r.length by have:=HVN.out;have:=HL9.out;omega] at HCL
       refine HCL.mono ?_
       rintro e w5 ⟨u,rfl,hown,hb5⟩
       obtain ⟨ux,uc,hu⟩:=hown.shape
       obtain ⟨un,hun⟩:∃ un,un=vr.length:=⟨_,rfl⟩
       rw [← hun] at hu
       subst hu
       obtain ⟨Nf,hNf,hof,hkf⟩:=HO5.out.less rfl hown hb5
       have HF:=Lib.hid (HPP.out _ _ _ ⟨Nf,fun k e => ⟨Nat.le_trans (Chg.size HCy4.out) (hNf k e).1,(hNf k e).2⟩,HO.hs hof,Chg.trans HCy4.out hkf⟩)
       have HLN:=Lib.hid hof.lenCell
       have HUN:=Lib.hid hun
       have g5:=(HO5.out.below hb5).blk.cell 3
       have f5:=(HO5.out.below hb5).blk.free 3
       clear g4 f4 HCL hown hb5 hNf hof hkf hun
       go_wp2_with fail
       go_roundw
       case rel => exact ⟨r,d1,HF.out,HV.out,fun b hb => HSU.out b (List.mem_cons_of_mem _ hb),by have:=HL9.out;omega⟩
       case measure => rw [HLN.out,HLC.out];have:=HL9.out;have:=HVN.out;omega
    · have hge:¬ (m:Int)<(vs.length:Int):=by omega
      have HV:=Lib.hid (hrest.trans (retL_stop (by rw [← hvl];exact hlt)))
      clear hrest hsub hN hs hk ho hl9
      go_wp2_with fail
      go_ret
      rw [HV.out]
      exact ⟨rfl,by have:=HP.out;rw [told_zero];exact this⟩
end
end Go.Proofs.YtdacanghbepjpaaGreatDoor
