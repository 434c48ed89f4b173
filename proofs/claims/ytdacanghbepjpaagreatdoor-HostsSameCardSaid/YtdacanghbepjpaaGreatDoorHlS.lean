/- A host's log: a new segment is begun: walked. -/
import Derived.Test.YtdacanghbepjpaaGreatDoorHlR
namespace Go.Proofs.YtdacanghbepjpaaGreatDoor
set_option linter.unusedSimpArgs false
set_option linter.unusedVariables false
set_option maxRecDepth 100000
open Go.RowKit Go.Maps
open Dsk
section
variable {w0 w w':World} {X H S:Nat→Prop} {v lv:Value} {d d':Dk} {j B:Nat} {h:Hl} {vs:List SegV} {l:List Sg}
theorem HK.wide {X1:Nat→Prop} (hX:∀ k,X k→X1 k) (x:HK X1 H w w'):HK X H w w':=Chg.mono x fun k _ e => e.elim (fun e => .inl fun e2 => e (hX k e2)) .inr
theorem told_zero (h:Hl):h.told 0=h:=by
 obtain ⟨a,b,c⟩:=h
 unfold Hl.told
 simp
set_option maxHeartbeats 16000000 in
theorem hbegin_any (h0:HS w0 X H w v d j h) (he:LEnv w0) (hbd:SgsBnd h.l) (hn:nextOf h.l≤999999999) (s:ByteArray) (hs:s.size≤100000) :
  Calls Tryz.prog 81 #[.pointer (some ⟨j,0,none⟩),.string s] w fun e w' => e=.returned (.int .i64 (beginP d h s.data.toList).1)∧HPost w0 X H w v (beginP d h s.data.toList).2.2 j (beginP d h s.data.toList).2.1 w':=by
 obtain ⟨lv,vs,ho⟩:=h0.open_
 obtain ⟨bd,rfl⟩:=h0.ptr
 have hnb9:nextOf h.l≤999999999:=hn
 have hvs9:vs.length≤1000000:=by rw [ho.rows.len];exact hbd.many
 obtain ⟨q,hq⟩:∃ q,q=w.heap.size:=⟨_,rfl⟩
 obtain ⟨wa,hwa⟩:∃ wa,wa=w.alloc (.cells #[.int .i64 0,.slice none 0 0,.slice none 0 0] 132 (0,0)):=⟨_,rfl⟩
 have hba:Below w.heap.size w wa:=by rw [hwa];exact (Below.refl _ _).alloc (Nat.le_refl _) _
 have HQa:=Lib.hid (show Blk wa q 132 #[.int .i64 0,.slice none 0 0,.slice none 0 0] by rw [hwa,hq];exact Blk.alloc_new w _ _)
 obtain ⟨X1,hX1⟩:∃ X1,X1=Also X w wa:=⟨_,rfl⟩
 have HOa:=Lib.hid (show HO w0 X1 H wa (.pointer (some ⟨bd,0,none⟩)) d j h lv vs by rw [hX1];exact ho.addX hba)
 have HXX:=Lib.hid (show ∀ k,X k→X1 k by rw [hX1];exact fun k e => .inl e)
 have HHX:=Lib.hid ho.sub
 have HQX:=Lib.hid (show X1 q∧¬ H q from ⟨by rw [hX1,hq];exact .inr ⟨Nat.le_refl _,by rw [hwa];simp⟩,fun e => by have:=(ho.new q e).2;omega⟩)
 have HQW:=Lib.hid (show w.heap.size≤q from by omega)
 have HZW:=Lib.hid (show w0.heap.size≤w.heap.size from ho.live.size)
 have HCa:=Lib.hid (HK.below (X:=X) (H:=H) hba)
 have HWA:=Lib.hid hwa
 have HL:=Lib.hid (fun (W:World) (hW:HO w0 X1 H W (.pointer (some ⟨bd,0,none⟩)) d j h lv vs) => hlast_any hW.blk hW.rows hbd.many)
 obtain ⟨nx,hnx⟩:∃ nx,nx=nextOf h.l:=⟨_,rfl⟩
 have HNQ:=Lib.hid (fun (W:World) (hW:Below w0.heap.size w0 W) => segName_any (he.below hW) (n:=nx) (by omega) none none 0 0 0 0)
 unfold segVal at HNQ
 rcases List.eq_nil_or_concat h.l with hl | ⟨init,a,hl⟩
 · have e0:lastPtr lv h.l.length=.pointer none:=by rw [hl];exact lastPtr_nil lv
   rw [e0] at HL
   have hnx0:nx=0:=by rw [hnx,hl];rfl
   obtain ⟨z,hz⟩:∃ z,z=d.append (ln nx) s.data.toList:=⟨_,rfl⟩
   obtain ⟨r,dd⟩:=z
   have HBG:=Lib.hid (show (r=0→beginP d h s.data.toList=(0,{ h with l:=h.l++[⟨nx,[]⟩] },dd))∧(r≠0→beginP d h s.data.toList=(r,h.told r,dd)) from by
    have e1:beginP d h s.data.toList=if r≠0 then (r,h.told r,dd) else (0,{ h with l:=h.l++[⟨nx,[]⟩] },dd):=by
     have hg:h.l.getLast?=none:=by rw [hl];rfl
     unfold beginP
     rw [hg]
     simp only [← hnx,← hz]
     simp
    rw [e1]
    exact ⟨fun e => by rw [if_neg (by simp [e])],fun e => by rw [if_pos e]⟩)
   have HAP:=Lib.hid (fun (W:World) (hW:Live w0 X1 W (.pointer (some ⟨bd,0,none⟩)) d) => hW.appendK (lnB nx) s (lnB_data _) rfl hz.symm (by have:=lnB_size (n:=nx) (by omega);omega) (by unfold maxLen;omega))
   have hm1:¬ (999999999:Int)<nx:=by omega
   subst hnx0
   have HNQ:=Lib.hid (show ∀ (W:World) (hW:Below w0.heap.size w0 W),Calls Tryz.prog 80 #[.agg #[.int .i64 0,.slice none 0 0,.slice none 0 0]] W fun e w' => e=.returned (.string (lnB 0))∧Below W.heap.size W w' from HNQ.out)
   clear h0 he hbd hn ho hl hba hX1 hwa hz e0 hnx hs hnb9 hm1
   go_enter Tryz.func81,Tryz.ntmps81
   go_wp2_with fail
   rw [← HWA.out,← hq]
   clear hq
   refine (HL.out wa HOa.out).mono ?_
   rintro e w1 ⟨rfl,hb1⟩
   have HO1:=Lib.hid (HOa.out.below hb1)
   have HC1:=Lib.hid (HCa.out.trans (HK.below hb1))
   have HQ1:=Lib.hid (HQa.out.below hb1)
   have hq1:=HQ1.out
   have c0:=hq1.cell 0
   simp at c0
   clear hb1 hq1
   go_wp2_with fail
   refine wp_region_two (T:=fun W => W.cell? ⟨j,0,none⟩=some (.pointer (some ⟨bd,0,none⟩))∧W.cell? ⟨q,0,none⟩=some (.int .i64 0)∧W.cell? ⟨q,1,none⟩=some (.slice none 0 0)∧W.cell? ⟨q,2,none⟩=some (.slice none 0 0)) (S:=fun _ => True) (n:=99) (by kernel_rfl) ?_
   obtain ⟨z1,hy1⟩:∃ y1,y1=(w1).drew:=⟨_,rfl⟩
   rw [← hy1]
   have hby:Below (w1).heap.size w1 z1:=by rw [hy1];exact (Below.refl _ _).drew
   have HOz1:=Lib.hid (HO.below HO1.out hby)
   have HCz1:=Lib.hid (HK.trans HC1.out (HK.below hby))
   have HQz1:=Lib.hid (Blk.below HQ1.out hby)
   have hS:True:=trivial
   have hT:z1.cell? ⟨j,0,none⟩=some (.pointer (some ⟨bd,0,none⟩))∧z1.cell? ⟨q,0,none⟩=some (.int .i64 0)∧z1.cell? ⟨q,1,none⟩=some (.slice none 0 0)∧z1.cell? ⟨q,2,none⟩=some (.slice none 0 0):=⟨HOz1.out.blk.cell 0,HQz1.out.cell 0,HQz1.out.cell 1,HQz1.out.cell 2⟩
   clear hy1 hby
   refine tk 0 35 hT hS ?_
   refine tk 1 36 hT hS ?_
   refine tk 2 37 hT hS ?_
   refine tk 3 38 hT hS ?_
   refine tk 4 39 hT hS ?_
   refine tk 5 40 hT hS ?_
   refine tk 7 42 hT hS ?_
   try simp only [xq]
   refine two_one 6 rfl (by kernel_rfl) ?_
   intro K hK
   go_simp
   refine (HNQ.out z1 HOz1.out.live.below).mono ?_
   rintro e z2 ⟨rfl,hbz⟩
   have HOz2:=Lib.hid (HO.below HOz1.out hbz)
   have HCz2:=Lib.hid (HK.trans HCz1.out (HK.below hbz))
   have HQz2:=Lib.hid (Blk.below HQz1.out hbz)
   have hT1:z2.cell? ⟨j,0,none⟩=some (.pointer (some ⟨bd,0,none⟩))∧z2.cell? ⟨q,0,none⟩=some (.int .i64 0)∧z2.cell? ⟨q,1,none⟩=some (.slice none 0 0)∧z2.cell? ⟨q,2,none⟩=some (.slice none 0 0):=⟨HOz2.out.blk.cell 0,HQz2.out.cell 0,HQz2.out.cell 1,HQz2.out.cell 2⟩
   refine hK.out _ _ hT1 (fun _ _ => hS) ?_
   clear hK K hT hbz
   have hT:=hT1
   clear hT1
   try simp only [xq]
   refine two_one 8 rfl (by kernel_rfl) ?_
   intro K hK
   go_simp
   refine (HAP.out z2 HOz2.out.live).mono ?_
   rintro e z3 ⟨rfl,hlz,hkz⟩
   have HOz3:=Lib.hid (HO.turn HOz2.out hlz hkz)
   have HCz3:=Lib.hid (HK.trans HCz2.out (HK.wide HXX.out (HK.keeps hkz)))
   have HQz3:=Lib.hid (Blk.chg HQz2.out hkz (fun e => e HQX.out.1))
   have hT1:z3.cell? ⟨j,0,none⟩=some (.pointer (some ⟨bd,0,none⟩))∧z3.cell? ⟨q,0,none⟩=some (.int .i64 0)∧z3.cell? ⟨q,1,none⟩=some (.slice none 0 0)∧z3.cell? ⟨q,2,none⟩=some (.slice none 0 0):=⟨HOz3.out.blk.cell 0,HQz3.out.cell 0,HQz3.out.cell 1,HQz3.out.cell 2⟩
   refine hK.out _ _ hT1 (fun _ _ => hS) ?_
   clear hK K hT hlz hkz
   have hT:=hT1
   clear hT1
   try simp only [xq]
   refine two_one 9 rfl (by kernel_rfl) ?_
   intro K hK
   go_simp
   refine (hdoes_at HOz3.out _).mono ?_
   rintro e z4 ⟨rfl,hoz,hkz⟩
   have HOz4:=Lib.hid hoz
   have HCz4:=Lib.hid (HK.trans HCz3.out (HK.wide HXX.out hkz))
   have HQz4:=Lib.hid (Blk.chg HQz3.out hkz (fun e => e.elim (fun e => e HQX.out.1) HQX.out.2))
   have hT1:z4.cell? ⟨j,0,none⟩=some (.pointer (some ⟨bd,0,none⟩))∧z4.cell? ⟨q,0,none⟩=some (.int .i64 0)∧z4.cell? ⟨q,1,none⟩=some (.slice none 0 0)∧z4.cell? ⟨q,2,none⟩=some (.slice none 0 0):=⟨HOz4.out.blk.cell 0,HQz4.out.cell 0,HQz4.out.cell 1,HQz4.out.cell 2⟩
   refine hK.out _ _ hT1 (fun _ _ => hS) ?_
   clear hK K hT hoz hkz
   have hT:=hT1
   clear hT1
   try simp only [xq]
   refine tk 10 8 hT hS ?_
   try simp only [xq]
   refine two_done (by kernel_rfl) ?_ _
   clear hT hS
   by_cases hr0:r=0
   case neg =>
    have t1:(r == 0)=false:=beq_eq_false_iff_ne.2 hr0
    have HV:=Lib.hid (HBG.out.2 hr0)
    go_wp2_with fail
    go_ret
    rw [HV.out]
    exact ⟨rfl,HPost.same (HOz4.out.dropX HXX.out HHX.out).hs HCz4.out⟩
   case pos =>
    have HV:=Lib.hid (HBG.out.1 hr0)
    subst hr0
    have HOz5:=Lib.hid (show HO w0 X1 H z4 (.pointer (some ⟨bd,0,none⟩)) dd j h lv vs by have:=HOz4.out;rw [told_zero] at this;exact this)
    go_wp2_with fail
    obtain ⟨x0,hx0⟩:∃ x0,x0=z4.drew:=⟨_,rfl⟩
    have hb01:Below z4.heap.size z4 x0:=by rw [hx0];exact (Below.refl _ _).drew
    have HO0:=Lib.hid (HOz5.out.below hb01)
    have HC0:=Lib.hid (HCz4.out.trans (HK.below hb01))
    have HQ0:=Lib.hid (HQz4.out.below hb01)
    obtain ⟨lx,lc,hlv⟩:=HO0.out.rows.row.shape
    obtain ⟨vn,hvn⟩:∃ vn,vn=vs.length:=⟨_,rfl⟩
    rw [← hvn] at hlv
    subst hlv
    have hT:x0.cell? ⟨q,0,none⟩=some (.int .i64 0)∧x0.cell? ⟨q,1,none⟩=some (.slice none 0 0)∧x0.cell? ⟨q,2,none⟩=some (.slice none 0 0):=⟨HQ0.out.cell 0,HQ0.out.cell 1,HQ0.out.cell 2⟩
    have hS:x0.cell? ⟨j,3,none⟩=some (.slice lx vn lc):=HO0.out.blk.cell 3
    refine wp_region_two (T:=fun W => W.cell? ⟨q,0,none⟩=some (.int .i64 0)∧W.cell? ⟨q,1,none⟩=some (.slice none 0 0)∧W.cell? ⟨q,2,none⟩=some (.slice none 0 0)) (S:=fun W => W.cell? ⟨j,3,none⟩=some (.slice lx vn lc)) (n:=10) (by kernel_rfl) ?_
    rw [← hx0]
    have HVN:=Lib.hid hvn
    clear hx0 hb01 hvn
    refine tk 0 47 hT hS ?_
    refine tk 1 48 hT hS ?_
    refine tk 2 49 hT hS ?_
    refine tk 3 50 hT hS ?_
    try simp only [xq]
    refine two_take 4 (some 51) (v:=?_) rfl rfl (by kernel_rfl) (by kernel_rfl) (by kernel_rfl) (by kernel_rfl) (by decide) (by kernel_rfl) (fun _ _ _ h => h) (Or.inl ⟨by rfl,?hy4⟩) hT hS ?_
    case hy4 => (intro w' hS';(try unfold S8 at hS');(try unfold T8 at hS');go_simp;(try with_reducible rfl))
    try simp only [xq]
    refine tk 5 52 hT hS ?_
    try simp only [xq]
    refine two_one 6 rfl (by kernel_rfl) ?_
    intro K hK
    go_simp
    obtain ⟨x1,hx1⟩:∃ x1,x1=x0.alloc (.cells #[.int .i64 0,.slice none 0 0,.slice none 0 0] 132 (0,0)):=⟨_,rfl⟩
    rw [← hx1]
    have hb1:Below x0.heap.size x0 x1:=by rw [hx1];exact (Below.refl _ _).alloc (Nat.le_refl _) _
    have HK1:=Lib.hid (show Blk x1 x0.heap.size 132 #[.int .i64 0,.slice none 0 0,.slice none 0 0] by rw [hx1];exact Blk.alloc_new x0 _ _)
    have HO1:=Lib.hid (HO0.out.below hb1)
    have HC1:=Lib.hid (HC0.out.trans (HK.below hb1))
    have HQ1:=Lib.hid (HQ0.out.below hb1)
    have hT1:x1.cell? ⟨q,0,none⟩=some (.int .i64 0)∧x1.cell? ⟨q,1,none⟩=some (.slice none 0 0)∧x1.cell? ⟨q,2,none⟩=some (.slice none 0 0):=⟨HQ1.out.cell 0,HQ1.out.cell 1,HQ1.out.cell 2⟩
    have hS1:x1.cell? ⟨j,3,none⟩=some (.slice lx vn lc):=HO1.out.blk.cell 3
    refine hK.out _ _ hT1 (fun _ _ => hS1) ?_
    clear hK K hT hS hb1 hx1
    have hT:=hT1
    have hS:=hS1
    clear hT1 hS1
    try simp only [xq]
    refine two_one 7 rfl (by kernel_rfl) ?_
    intro K hK
    refine step_append_rows rfl (.tmp 51) (.tmp 53) (by rfl) segRow_len (by omega) under_segs Tryz.info_seg rfl (by omega) HO1.out.rows.row (by rfl) (m:=[⟨0,.slice none 0 0,.slice none 0 0⟩]) (by rfl) (RdRow.one HK1.out rfl) (fun a ha u hu => by
     obtain rfl:a=⟨0,.slice none 0 0,.slice none 0 0⟩:=by simpa using ha
     simp [segRow] at hu
     rcases hu with rfl | rfl <;> rfl) (by simp;omega) (by simp;omega) HO1.out.live.size ?_
    intro u3 x3 hown3 hgr3 hb3
    obtain ⟨ux3,uc3,hu3⟩:=hown3.shape
    obtain ⟨n3,hn3⟩:∃ n3,n3=(vs++[(⟨0,.slice none 0 0,.slice none 0 0⟩:SegV)]).length:=⟨_,rfl⟩
    rw [← hn3] at hu3
    subst hu3
    obtain ⟨N,hN,hog,hkg⟩:=HO1.out.grow hown3 hgr3 hb3
    have hch3:=chg_of_grown hgr3
    have hjb:=HO1.out.blk.chg hch3 (fun e => HO1.out.ne j (.inl e) rfl)
    have hqb:=HQ1.out.chg hch3 (fun e => HQX.out.2 (HO1.out.inH q (.inr (.inl e))))
    have hT1:x3.cell? ⟨q,0,none⟩=some (.int .i64 0)∧x3.cell? ⟨q,1,none⟩=some (.slice none 0 0)∧x3.cell? ⟨q,2,none⟩=some (.slice none 0 0):=⟨hqb.cell 0,hqb.cell 1,hqb.cell 2⟩
    have hS1:x3.cell? ⟨j,3,none⟩=some (.slice lx vn lc):=hjb.cell 3
    have f3:=hjb.free 3
    have HN:=Lib.hid hN
    have HOG:=Lib.hid hog
    have HKG:=Lib.hid hkg
    have HQ3:=Lib.hid hqb
    refine hK.out _ _ hT1 (fun _ _ => hS1) ?_
    clear hK K hT hS hown3 hgr3 hb3 hn3 hN hog hkg hch3 hjb hqb
    have hT:=hT1
    have hS:=hS1
    clear hT1 hS1
    try simp only [xq]
    refine tk 8 55 hT hS ?_
    refine tk 9 56 hT hS ?_
    try simp only [xq]
    refine two_one 10 rfl (by kernel_rfl) ?_
    intro K hK
    go_simp
    obtain ⟨x4,hx4⟩:∃ x4,x4=x3.setCell ⟨j,3,none⟩ (.slice ux3 n3 uc3):=⟨_,rfl⟩
    rw [← hx4] at HN HOG HKG ⊢
    have hqj:q≠j:=fun e => HQX.out.2 (HO1.out.inH q (.inl e))
    have hq4:Blk x4 q 132 #[.int .i64 0,.slice none 0 0,.slice none 0 0]:=by rw [hx4];exact HQ3.out.chg ((Chg.refl (fun k => k=j) x3).setCell (p:=⟨j,3,none⟩) (fun _ => rfl) _) hqj
    refine hK.out _ _ ⟨hq4.cell 0,hq4.cell 1,hq4.cell 2⟩ (fun _ e => absurd rfl e) ?_
    clear hK K hT hS f3 hx4 hqj hq4
    try simp only [xq]
    refine two_done (by kernel_rfl) ?_ _
    go_wp2_with fail
    go_ret
    rw [HV.out]
    refine ⟨rfl,N,fun k hk => ⟨Nat.le_trans HC1.out.size (HN.out k hk).1,(HN.out k hk).2⟩,HO.hs (HO.dropX HOG.out (fun k hk => hk.elim (fun e => .inl (HXX.out k e)) .inr) (fun k hk => hk.elim (fun e => .inl (HHX.out k e)) .inr)),HC1.out.trans (HK.wide HXX.out HKG.out)⟩
 · rw [List.concat_eq_append] at hl
   obtain ⟨g,c,sx,sc,ex,ec,hlv,hlp,_,_,hi,hvs⟩:=ho.last hl
   rw [hlp] at HL
   have hf9:=hbd.first a (by rw [hl];simp)
   have HNM:=Lib.hid (fun (W:World) (hW:Below w0.heap.size w0 W) => segName_any (he.below hW) hf9 sx ex a.spans.length sc a.spans.length ec)
   have HNX:=Lib.hid (fun W:World => segNext_any (w:=W) (n:=a.first) (m:=nx) sx ex a.spans.length sc a.spans.length ec (by rw [hnx,hl,nextOf_snoc];rfl) (by omega))
   unfold segVal at HNM HNX
   obtain ⟨y,hy⟩:∃ y,y=d.sync (ln a.first):=⟨_,rfl⟩
   obtain ⟨r1,d1⟩:=y
   obtain ⟨z,hz⟩:∃ z,z=d1.append (ln nx) s.data.toList:=⟨_,rfl⟩
   obtain ⟨r,dd⟩:=z
   have hbe:beginP d h s.data.toList=if r1≠0 then (r1,h.told r1,d1) else if r≠0 then (r,h.told r,dd) else (0,{ h with l:=h.l++[⟨nx,[]⟩] },dd):=by
    have hg:h.l.getLast?=some a:=by rw [hl,getLast_snoc]
    unfold beginP
    rw [hg]
    simp only [← hy,← hnx,← hz]
   have HSY:=Lib.hid (fun (W:World) (hW:Live w0 X1 W (.pointer (some ⟨bd,0,none⟩)) d) => hW.syncK (lnB a.first) (lnB_data _) hy.symm (by have:=lnB_size hf9;omega))
   have HAP:=Lib.hid (fun (W:World) (hW:Live w0 X1 W (.pointer (some ⟨bd,0,none⟩)) d1) => hW.appendK (lnB nx) s (lnB_data _) rfl hz.symm (by have:=lnB_size (n:=nx) (by omega);omega) (by unfold maxLen;omega))
   have HTC:=Lib.hid (fun (W:World) (D:Dk) (hh:Hl) (x:HO w0 X1 H W (.pointer (some ⟨bd,0,none⟩)) D j hh lv vs) => by
    have:=x.cells hlv init.length hi
    rw [hvs] at this
    exact this)
   obtain ⟨n,hn⟩:∃ n,n=init.length:=⟨_,rfl⟩
   obtain ⟨fn,hfn⟩:∃ fn,fn=a.first:=⟨_,rfl⟩
   obtain ⟨sn,hsn⟩:∃ sn,sn=a.spans.length:=⟨_,rfl⟩
   simp only [← hn,← hfn,← hsn] at HL HNM HSY HTC HNX
   have hm1:¬ (999999999:Int)<nx:=by omega
   have HBE:=Lib.hid hbe
   clear h0 he hbd ho hl hba hX1 hwa hz hy hnx hs hnb9 hlv hlp hi hvs hn hfn hsn hf9 hbe
   go_enter Tryz.func81,Tryz.ntmps81
   go_wp2_with fail
   rw [← HWA.out,← hq]
   clear hq
   refine (HL.out wa HOa.out).mono ?_
   rintro e w1 ⟨rfl,hb1⟩
   have HO1:=Lib.hid (HOa.out.below hb1)
   have HC1:=Lib.hid (HCa.out.trans (HK.below hb1))
   have HQ1:=Lib.hid (HQa.out.below hb1)
   clear hb1
   go_wp2_with fail
   refine wp_region_two (T:=fun W => W.cell? ⟨j,0,none⟩=some (.pointer (some ⟨bd,0,none⟩))∧W.cell? ⟨g,n*3,none⟩=some (.int .i64 fn)∧W.cell? ⟨g,n*3+1,none⟩=some (.slice sx sn sc)∧W.cell? ⟨g,n*3+2,none⟩=some (.slice ex sn ec)) (S:=fun _ => True) (n:=99) (by kernel_rfl) ?_
   obtain ⟨y1,hy1⟩:∃ y1,y1=(w1).drew:=⟨_,rfl⟩
   rw [← hy1]
   have hby:Below (w1).heap.size w1 y1:=by rw [hy1];exact (Below.refl _ _).drew
   have HOy1:=Lib.hid (HO.below HO1.out hby)
   have HCy1:=Lib.hid (HK.trans HC1.out (HK.below hby))
   have HQy1:=Lib.hid (Blk.below HQ1.out hby)
   have hS:True:=trivial
   have hT:=HTC.out y1 _ _ HOy1.out
   clear hy1 hby
   refine tk 0 13 hT hS ?_
   refine tk 1 14 hT hS ?_
   refine tk 2 15 hT hS ?_
   refine tk 3 16 hT hS ?_
   refine tk 4 17 hT hS ?_
   refine tk 5 18 hT hS ?_
   refine tk 6 19 hT hS ?_
   refine tk 7 20 hT hS ?_
   try simp only [xq]
   refine two_one 8 rfl (by kernel_rfl) ?_
   intro K hK
   go_simp
   refine (HNM.out y1 HOy1.out.live.below).mono ?_
   rintro e y2 ⟨rfl,hbz⟩
   have HOy2:=Lib.hid (HO.below HOy1.out hbz)
   have HCy2:=Lib.hid (HK.trans HCy1.out (HK.below hbz))
   have HQy2:=Lib.hid (Blk.below HQy1.out hbz)
   have hT1:=HTC.out y2 _ _ HOy2.out
   refine hK.out _ _ hT1 (fun _ _ => hS) ?_
   clear hK K hT hbz
   have hT:=hT1
   clear hT1
   try simp only [xq]
   refine two_one 9 rfl (by kernel_rfl) ?_
   intro K hK
   go_simp
   refine (HSY.out y2 HOy2.out.live).mono ?_
   rintro e y3 ⟨rfl,hlz,hkz⟩
   have HOy3:=Lib.hid (HO.turn HOy2.out hlz hkz)
   have HCy3:=Lib.hid (HK.trans HCy2.out (HK.wide HXX.out (HK.keeps hkz)))
   have HQy3:=Lib.hid (Blk.chg HQy2.out hkz (fun e => e HQX.out.1))
   have hT1:=HTC.out y3 _ _ HOy3.out
   refine hK.out _ _ hT1 (fun _ _ => hS) ?_
   clear hK K hT hlz hkz
   have hT:=hT1
   clear hT1
   try simp only [xq]
   refine two_one 10 rfl (by kernel_rfl) ?_
   intro K hK
   go_simp
   refine (hdoes_at HOy3.out _).mono ?_
   rintro e y4 ⟨rfl,hoz,hkz⟩
   have HOy4:=Lib.hid hoz
   have HCy4:=Lib.hid (HK.trans HCy3.out (HK.wide HXX.out hkz))
   have HQy4:=Lib.hid (Blk.chg HQy3.out hkz (fun e => e.elim (fun e => e HQX.out.1) HQX.out.2))
   have hT1:=HTC.out y4 _ _ HOy4.out
   refine hK.out _ _ hT1 (fun _ _ => hS) ?_
   clear hK K hT hoz hkz
   have hT:=hT1
   clear hT1
   try simp only [xq]
   refine tk 11 7 hT hS ?_
   try simp only [xq]
   refine two_done (by kernel_rfl) ?_ _
   clear hT hS
   by_cases hr1:r1=0
   case neg =>
    have t1:(r1 == 0)=false:=beq_eq_false_iff_ne.2 hr1
    have HV:=Lib.hid (show beginP d h s.data.toList=(r1,h.told r1,d1) by rw [HBE.out,if_pos hr1])
    go_wp2_with fail
    go_ret
    rw [HV.out]
    exact ⟨rfl,HPost.same (HOy4.out.dropX HXX.out HHX.out).hs HCy4.out⟩
   case pos =>
    subst hr1
    have HBG:=Lib.hid (show (r=0→beginP d h s.data.toList=(0,{ h with l:=h.l++[⟨nx,[]⟩] },dd))∧(r≠0→beginP d h s.data.toList=(r,h.told r,dd)) from by
     rw [HBE.out,if_neg (by simp)]
     exact ⟨fun e => by rw [if_neg (by simp [e])],fun e => by rw [if_pos e]⟩)
    have HO5:=Lib.hid (show HO w0 X1 H y4 (.pointer (some ⟨bd,0,none⟩)) d1 j h lv vs by have:=HOy4.out;rw [told_zero] at this;exact this)
    obtain ⟨q0,q1,q2,q3⟩:=HTC.out y4 _ _ HO5.out
    have b0:=HQy4.out.cell 0
    have bf:=HQy4.out.free 0
    simp at b0
    go_wp2_with fail
    refine (HNX.out y4).mono ?_
    rintro e w5 ⟨rfl,hb5⟩
    have HO6:=Lib.hid (HO5.out.below hb5)
    have HC6:=Lib.hid (HCy4.out.trans (HK.below hb5))
    have HQ6:=Lib.hid (HQy4.out.below hb5)
    have c0:=HQ6.out.cell 0
    have cf:=HQ6.out.free 0
    simp at c0
    clear hb5 q0 q1 q2 q3 b0 bf
    go_wp2_with fail
    obtain ⟨w6,hw6⟩:∃ w6,w6=w5.setCell ⟨q,0,none⟩ (.int .i64 nx):=⟨_,rfl⟩
    rw [← hw6]
    have hc6:Chg (fun k => k=q) w5 w6:=by rw [hw6];exact (Chg.refl (fun k => k=q) w5).setCell (p:=⟨q,0,none⟩) (fun _ => rfl) _
    have HO7:=Lib.hid (HO6.out.chg hc6 (HO6.out.live.chg hc6 (fun k e => by have e:k=q:=e;subst e;exact ⟨HQX.out.1,Nat.le_trans (Nat.le_trans (Nat.le_refl _) HZW.out) HQW.out⟩)) (fun k hk e => by have e:k=q:=e;subst e;exact HQX.out.2 hk))
    have HC7:=Lib.hid (show HK X H w w6 by rw [hw6];exact Chg.setCell (show Chg (fun k => ¬ X k∨H k) w w5 from HC6.out) (p:=⟨q,0,none⟩) (fun e => absurd e (by have:=HQW.out;simp only;omega)) _)
    have HQ7:=Lib.hid (show Blk w6 q 132 #[.int .i64 nx,.slice none 0 0,.slice none 0 0] by rw [hw6];exact HQ6.out.set 0 _)
    clear hw6 hc6 c0 cf
    refine wp_region_two (T:=fun W => W.cell? ⟨j,0,none⟩=some (.pointer (some ⟨bd,0,none⟩))∧W.cell? ⟨q,0,none⟩=some (.int .i64 nx)∧W.cell? ⟨q,1,none⟩=some (.slice none 0 0)∧W.cell? ⟨q,2,none⟩=some (.slice none 0 0)) (S:=fun _ => True) (n:=99) (by kernel_rfl) ?_
    obtain ⟨z1,hy1⟩:∃ y1,y1=(w6).drew:=⟨_,rfl⟩
    rw [← hy1]
    have hby:Below (w6).heap.size w6 z1:=by rw [hy1];exact (Below.refl _ _).drew
    have HOz1:=Lib.hid (HO.below HO7.out hby)
    have HCz1:=Lib.hid (HK.trans HC7.out (HK.below hby))
    have HQz1:=Lib.hid (Blk.below HQ7.out hby)
    have hS:True:=trivial
    have hT:z1.cell? ⟨j,0,none⟩=some (.pointer (some ⟨bd,0,none⟩))∧z1.cell? ⟨q,0,none⟩=some (.int .i64 nx)∧z1.cell? ⟨q,1,none⟩=some (.slice none 0 0)∧z1.cell? ⟨q,2,none⟩=some (.slice none 0 0):=⟨HOz1.out.blk.cell 0,HQz1.out.cell 0,HQz1.out.cell 1,HQz1.out.cell 2⟩
    clear hy1 hby
    refine tk 0 35 hT hS ?_
    refine tk 1 36 hT hS ?_
    refine tk 2 37 hT hS ?_
    refine tk 3 38 hT hS ?_
    refine tk 4 39 hT hS ?_
    refine tk 5 40 hT hS ?_
    refine tk 7 42 hT hS ?_
    try simp only [xq]
    refine two_one 6 rfl (by kernel_rfl) ?_
    intro K hK
    go_simp
    refine (HNQ.out z1 HOz1.out.live.below).mono ?_
    rintro e z2 ⟨rfl,hbz⟩
    have HOz2:=Lib.hid (HO.below HOz1.out hbz)
    have HCz2:=Lib.hid (HK.trans HCz1.out (HK.below hbz))
    have HQz2:=Lib.hid (Blk.below HQz1.out hbz)
    have hT1:z2.cell? ⟨j,0,none⟩=some (.pointer (some ⟨bd,0,none⟩))∧z2.cell? ⟨q,0,none⟩=some (.int .i64 nx)∧z2.cell? ⟨q,1,none⟩=some (.slice none 0 0)∧z2.cell? ⟨q,2,none⟩=some (.slice none 0 0):=⟨HOz2.out.blk.cell 0,HQz2.out.cell 0,HQz2.out.cell 1,HQz2.out.cell 2⟩
    refine hK.out _ _ hT1 (fun _ _ => hS) ?_
    clear hK K hT hbz
    have hT:=hT1
    clear hT1
    try simp only [xq]
    refine two_one 8 rfl (by kernel_rfl) ?_
    intro K hK
    go_simp
    refine (HAP.out z2 HOz2.out.live).mono ?_
    rintro e z3 ⟨rfl,hlz,hkz⟩
    have HOz3:=Lib.hid (HO.turn HOz2.out hlz hkz)
    have HCz3:=Lib.hid (HK.trans HCz2.out (HK.wide HXX.out (HK.keeps hkz)))
    have HQz3:=Lib.hid (Blk.chg HQz2.out hkz (fun e => e HQX.out.1))
    have hT1:z3.cell? ⟨j,0,none⟩=some (.pointer (some ⟨bd,0,none⟩))∧z3.cell? ⟨q,0,none⟩=some (.int .i64 nx)∧z3.cell? ⟨q,1,none⟩=some (.slice none 0 0)∧z3.cell? ⟨q,2,none⟩=some (.slice none 0 0):=⟨HOz3.out.blk.cell 0,HQz3.out.cell 0,HQz3.out.cell 1,HQz3.out.cell 2⟩
    refine hK.out _ _ hT1 (fun _ _ => hS) ?_
    clear hK K hT hlz hkz
    have hT:=hT1
    clear hT1
    try simp only [xq]
    refine two_one 9 rfl (by kernel_rfl) ?_
    intro K hK
    go_simp
    refine (hdoes_at HOz3.out _).mono ?_
    rintro e z4 ⟨rfl,hoz,hkz⟩
    have HOz4:=Lib.hid hoz
    have HCz4:=Lib.hid (HK.trans HCz3.out (HK.wide HXX.out hkz))
    have HQz4:=Lib.hid (Blk.chg HQz3.out hkz (fun e => e.elim (fun e => e HQX.out.1) HQX.out.2))
    have hT1:z4.cell? ⟨j,0,none⟩=some (.pointer (some ⟨bd,0,none⟩))∧z4.cell? ⟨q,0,none⟩=some (.int .i64 nx)∧z4.cell? ⟨q,1,none⟩=some (.slice none 0 0)∧z4.cell? ⟨q,2,none⟩=some (.slice none 0 0):=⟨HOz4.out.blk.cell 0,HQz4.out.cell 0,HQz4.out.cell 1,HQz4.out.cell 2⟩
    refine hK.out _ _ hT1 (fun _ _ => hS) ?_
    clear hK K hT hoz hkz
    have hT:=hT1
    clear hT1
    try simp only [xq]
    refine tk 10 8 hT hS ?_
    try simp only [xq]
    refine two_done (by kernel_rfl) ?_ _
    clear hT hS
    by_cases hr0:r=0
    case neg =>
     have t1:(r == 0)=false:=beq_eq_false_iff_ne.2 hr0
     have HV:=Lib.hid (HBG.out.2 hr0)
     go_wp2_with fail
     go_ret
     rw [HV.out]
     exact ⟨rfl,HPost.same (HOz4.out.dropX HXX.out HHX.out).hs HCz4.out⟩
    case pos =>
     have HV:=Lib.hid (HBG.out.1 hr0)
     subst hr0
     have HOz5:=Lib.hid (show HO w0 X1 H z4 (.pointer (some ⟨bd,0,none⟩)) dd j h lv vs by have:=HOz4.out;rw [told_zero] at this;exact this)
     go_wp2_with fail
     obtain ⟨x0,hx0⟩:∃ x0,x0=z4.drew:=⟨_,rfl⟩
     have hb01:Below z4.heap.size z4 x0:=by rw [hx0];exact (Below.refl _ _).drew
     have HO0:=Lib.hid (HOz5.out.below hb01)
     have HC0:=Lib.hid (HCz4.out.trans (HK.below hb01))
     have HQ0:=Lib.hid (HQz4.out.below hb01)
     obtain ⟨lx,lc,hlv⟩:=HO0.out.rows.row.shape
     obtain ⟨vn,hvn⟩:∃ vn,vn=vs.length:=⟨_,rfl⟩
     rw [← hvn] at hlv
     subst hlv
     have hT:x0.cell? ⟨q,0,none⟩=some (.int .i64 nx)∧x0.cell? ⟨q,1,none⟩=some (.slice none 0 0)∧x0.cell? ⟨q,2,none⟩=some (.slice none 0 0):=⟨HQ0.out.cell 0,HQ0.out.cell 1,HQ0.out.cell 2⟩
     have hS:x0.cell? ⟨j,3,none⟩=some (.slice lx vn lc):=HO0.out.blk.cell 3
     refine wp_region_two (T:=fun W => W.cell? ⟨q,0,none⟩=some (.int .i64 nx)∧W.cell? ⟨q,1,none⟩=some (.slice none 0 0)∧W.cell? ⟨q,2,none⟩=some (.slice none 0 0)) (S:=fun W => W.cell? ⟨j,3,none⟩=some (.slice lx vn lc)) (n:=10) (by kernel_rfl) ?_
     rw [← hx0]
     have HVN:=Lib.hid hvn
     clear hx0 hb01 hvn
     refine tk 0 47 hT hS ?_
     refine tk 1 48 hT hS ?_
     refine tk 2 49 hT hS ?_
     refine tk 3 50 hT hS ?_
     try simp only [xq]
     refine two_take 4 (some 51) (v:=?_) rfl rfl (by kernel_rfl) (by kernel_rfl) (by kernel_rfl) (by kernel_rfl) (by decide) (by kernel_rfl) (fun _ _ _ h => h) (Or.inl ⟨by rfl,?hy4⟩) hT hS ?_
     case hy4 => (intro w' hS';(try unfold S8 at hS');(try unfold T8 at hS');go_simp;(try with_reducible rfl))
     try simp only [xq]
     refine tk 5 52 hT hS ?_
     try simp only [xq]
     refine two_one 6 rfl (by kernel_rfl) ?_
     intro K hK
     go_simp
     obtain ⟨x1,hx1⟩:∃ x1,x1=x0.alloc (.cells #[.int .i64 nx,.slice none 0 0,.slice none 0 0] 132 (0,0)):=⟨_,rfl⟩
     rw [← hx1]
     have hb1:Below x0.heap.size x0 x1:=by rw [hx1];exact (Below.refl _ _).alloc (Nat.le_refl _) _
     have HK1:=Lib.hid (show Blk x1 x0.heap.size 132 #[.int .i64 nx,.slice none 0 0,.slice none 0 0] by rw [hx1];exact Blk.alloc_new x0 _ _)
     have HO1:=Lib.hid (HO0.out.below hb1)
     have HC1:=Lib.hid (HC0.out.trans (HK.below hb1))
     have HQ1:=Lib.hid (HQ0.out.below hb1)
     have hT1:x1.cell? ⟨q,0,none⟩=some (.int .i64 nx)∧x1.cell? ⟨q,1,none⟩=some (.slice none 0 0)∧x1.cell? ⟨q,2,none⟩=some (.slice none 0 0):=⟨HQ1.out.cell 0,HQ1.out.cell 1,HQ1.out.cell 2⟩
     have hS1:x1.cell? ⟨j,3,none⟩=some (.slice lx vn lc):=HO1.out.blk.cell 3
     refine hK.out _ _ hT1 (fun _ _ => hS1) ?_
     clear hK K hT hS hb1 hx1
     have hT:=hT1
     have hS:=hS1
     clear hT1 hS1
     try simp only [xq]
     refine two_one 7 rfl (by kernel_rfl) ?_
     intro K hK
     refine step_append_rows rfl (.tmp 51) (.tmp 53) (by rfl) segRow_len (by omega) under_segs Tryz.info_seg rfl (by omega) HO1.out.rows.row (by rfl) (m:=[⟨nx,.slice none 0 0,.slice none 0 0⟩]) (by rfl) (RdRow.one HK1.out rfl) (fun a ha u hu => by
      obtain rfl:a=⟨nx,.slice none 0 0,.slice none 0 0⟩:=by simpa using ha
      simp [segRow] at hu
      rcases hu with rfl | rfl <;> rfl) (by simp;omega) (by simp;omega) HO1.out.live.size ?_
     intro u3 x3 hown3 hgr3 hb3
     obtain ⟨ux3,uc3,hu3⟩:=hown3.shape
     obtain ⟨n3,hn3⟩:∃ n3,n3=(vs++[(⟨nx,.slice none 0 0,.slice none 0 0⟩:SegV)]).length:=⟨_,rfl⟩
     rw [← hn3] at hu3
     subst hu3
     obtain ⟨N,hN,hog,hkg⟩:=HO1.out.grow hown3 hgr3 hb3
     have hch3:=chg_of_grown hgr3
     have hjb:=HO1.out.blk.chg hch3 (fun e => HO1.out.ne j (.inl e) rfl)
     have hqb:=HQ1.out.chg hch3 (fun e => HQX.out.2 (HO1.out.inH q (.inr (.inl e))))
     have hT1:x3.cell? ⟨q,0,none⟩=some (.int .i64 nx)∧x3.cell? ⟨q,1,none⟩=some (.slice none 0 0)∧x3.cell? ⟨q,2,none⟩=some (.slice none 0 0):=⟨hqb.cell 0,hqb.cell 1,hqb.cell 2⟩
     have hS1:x3.cell? ⟨j,3,none⟩=some (.slice lx vn lc):=hjb.cell 3
     have f3:=hjb.free 3
     have HN:=Lib.hid hN
     have HOG:=Lib.hid hog
     have HKG:=Lib.hid hkg
     have HQ3:=Lib.hid hqb
     refine hK.out _ _ hT1 (fun _ _ => hS1) ?_
     clear hK K hT hS hown3 hgr3 hb3 hn3 hN hog hkg hch3 hjb hqb
     have hT:=hT1
     have hS:=hS1
     clear hT1 hS1
     try simp only [xq]
     refine tk 8 55 hT hS ?_
     refine tk 9 56 hT hS ?_
     try simp only [xq]
     refine two_one 10 rfl (by kernel_rfl) ?_
     intro K hK
     go_simp
     obtain ⟨x4,hx4⟩:∃ x4,x4=x3.setCell ⟨j,3,none⟩ (.slice ux3 n3 uc3):=⟨_,rfl⟩
     rw [← hx4] at HN HOG HKG ⊢
     have hqj:q≠j:=fun e => HQX.out.2 (HO1.out.inH q (.inl e))
     have hq4:Blk x4 q 132 #[.int .i64 nx,.slice none 0 0,.slice none 0 0]:=by rw [hx4];exact HQ3.out.chg ((Chg.refl (fun k => k=j) x3).setCell (p:=⟨j,3,none⟩) (fun _ => rfl) _) hqj
     refine hK.out _ _ ⟨hq4.cell 0,hq4.cell 1,hq4.cell 2⟩ (fun _ e => absurd rfl e) ?_
     clear hK K hT hS f3 hx4 hqj hq4
     try simp only [xq]
     refine two_done (by kernel_rfl) ?_ _
     go_wp2_with fail
     go_ret
     rw [HV.out]
     refine ⟨rfl,N,fun k hk => ⟨Nat.le_trans HC1.out.size (HN.out k hk).1,(HN.out k hk).2⟩,HO.hs (HO.dropX HOG.out (fun k hk => hk.elim (fun e => .inl (HXX.out k e)) .inr) (fun k hk => hk.elim (fun e => .inl (HHX.out k e)) .inr)),HC1.out.trans (HK.wide HXX.out HKG.out)⟩
end
end Go.Proofs.YtdacanghbepjpaaGreatDoor
