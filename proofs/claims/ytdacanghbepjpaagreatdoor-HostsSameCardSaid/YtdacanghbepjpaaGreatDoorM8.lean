/- A span's bytes read back: walked. A span's bytes decoded: walked. -/
import Derived.Test.YtdacanghbepjpaaGreatDoorSpC
namespace Go.Proofs.YtdacanghbepjpaaGreatDoor
set_option linter.unusedSimpArgs false
set_option linter.unusedVariables false
set_option maxRecDepth 100000
open Go.RowKit Go.Maps
def spCs (x:Sp.Span):Nat→Array Value
 | 0 => #[.int .i64 0,.int .i64 0,.int .i64 0,.string ⟨#[]⟩,.string ⟨#[]⟩,.int .i64 0,.int .i64 0,.string ⟨#[]⟩]
 | 1 => #[.int .i64 x.trace,.int .i64 0,.int .i64 0,.string ⟨#[]⟩,.string ⟨#[]⟩,.int .i64 0,.int .i64 0,.string ⟨#[]⟩]
 | 2 => #[.int .i64 x.trace,.int .i64 x.id,.int .i64 0,.string ⟨#[]⟩,.string ⟨#[]⟩,.int .i64 0,.int .i64 0,.string ⟨#[]⟩]
 | 3 => #[.int .i64 x.trace,.int .i64 x.id,.int .i64 x.parent,.string ⟨#[]⟩,.string ⟨#[]⟩,.int .i64 0,.int .i64 0,.string ⟨#[]⟩]
 | 4 => #[.int .i64 x.trace,.int .i64 x.id,.int .i64 x.parent,.string ⟨#[]⟩,.string ⟨#[]⟩,.int .i64 x.start,.int .i64 0,.string ⟨#[]⟩]
 | _ => #[.int .i64 x.trace,.int .i64 x.id,.int .i64 x.parent,.string ⟨#[]⟩,.string ⟨#[]⟩,.int .i64 x.start,.int .i64 x.dur,.string ⟨#[]⟩]
def spCt (x:Sp.Span):Nat→Array Value
 | 0 => #[.int .i64 x.trace,.int .i64 x.id,.int .i64 x.parent,.string ⟨#[]⟩,.string ⟨#[]⟩,.int .i64 x.start,.int .i64 x.dur,.string ⟨#[]⟩]
 | 1 => #[.int .i64 x.trace,.int .i64 x.id,.int .i64 x.parent,.string x.service,.string ⟨#[]⟩,.int .i64 x.start,.int .i64 x.dur,.string ⟨#[]⟩]
 | 2 => #[.int .i64 x.trace,.int .i64 x.id,.int .i64 x.parent,.string x.service,.string x.host,.int .i64 x.start,.int .i64 x.dur,.string ⟨#[]⟩]
 | _ => #[.int .i64 x.trace,.int .i64 x.id,.int .i64 x.parent,.string x.service,.string x.host,.int .i64 x.start,.int .i64 x.dur,.string x.note]
theorem spNm_get0 {x:Sp.Span} (h:Sp.May x):Var.get (Sp.enc x) (spNm x 0).length=some (x.trace.toNat,(spNm x 1).length):=by
 have e:Sp.enc x=spNm x 0++(Ed.pn x.trace++(Ed.pn x.id++(Ed.pn x.parent++(Ed.pn x.start++(Ed.pn x.dur++(Ed.encT x.service.data.toList++(Ed.encT x.host.data.toList++Ed.encT x.note.data.toList))))))):=by simp [spNm,Sp.enc]
 rw [e,Ed.get_pn (by have:=h.trace;omega) (by have:=h.trace;omega)]
 simp [spNm]
theorem spNm_get1 {x:Sp.Span} (h:Sp.May x):Var.get (Sp.enc x) (spNm x 1).length=some (x.id.toNat,(spNm x 2).length):=by
 have e:Sp.enc x=spNm x 1++(Ed.pn x.id++(Ed.pn x.parent++(Ed.pn x.start++(Ed.pn x.dur++(Ed.encT x.service.data.toList++(Ed.encT x.host.data.toList++Ed.encT x.note.data.toList)))))):=by simp [spNm,Sp.enc]
 rw [e,Ed.get_pn (by have:=h.id;omega) (by have:=h.id;omega)]
 simp [spNm]
theorem spNm_get2 {x:Sp.Span} (h:Sp.May x):Var.get (Sp.enc x) (spNm x 2).length=some (x.parent.toNat,(spNm x 3).length):=by
 have e:Sp.enc x=spNm x 2++(Ed.pn x.parent++(Ed.pn x.start++(Ed.pn x.dur++(Ed.encT x.service.data.toList++(Ed.encT x.host.data.toList++Ed.encT x.note.data.toList))))):=by simp [spNm,Sp.enc]
 rw [e,Ed.get_pn (by have:=h.parent;omega) (by have:=h.parent;omega)]
 simp [spNm]
theorem spNm_get3 {x:Sp.Span} (h:Sp.May x):Var.get (Sp.enc x) (spNm x 3).length=some (x.start.toNat,(spNm x 4).length):=by
 have e:Sp.enc x=spNm x 3++(Ed.pn x.start++(Ed.pn x.dur++(Ed.encT x.service.data.toList++(Ed.encT x.host.data.toList++Ed.encT x.note.data.toList)))):=by simp [spNm,Sp.enc]
 rw [e,Ed.get_pn (by have:=h.start;omega) (by have:=h.start;omega)]
 simp [spNm]
theorem spNm_get4 {x:Sp.Span} (h:Sp.May x):Var.get (Sp.enc x) (spNm x 4).length=some (x.dur.toNat,(spNm x 5).length):=by
 have e:Sp.enc x=spNm x 4++(Ed.pn x.dur++(Ed.encT x.service.data.toList++(Ed.encT x.host.data.toList++Ed.encT x.note.data.toList))):=by simp [spNm,Sp.enc]
 rw [e,Ed.get_pn (by have:=h.dur;omega) (by have:=h.dur;omega)]
 simp [spNm]
theorem spTx_get0 {x:Sp.Span} (h:Sp.May x):Ed.txt (Sp.enc x) (spTx x 0).length=some (x.service.data.toList,(spTx x 1).length):=by
 have e:Sp.enc x=spTx x 0++(Ed.encT x.service.data.toList++(Ed.encT x.host.data.toList++Ed.encT x.note.data.toList)):=by simp [spTx,spNm,Sp.enc]
 rw [e,Ed.txt_enc _ _ _ h.service.len]
 simp [spTx]
theorem spTx_get1 {x:Sp.Span} (h:Sp.May x):Ed.txt (Sp.enc x) (spTx x 1).length=some (x.host.data.toList,(spTx x 2).length):=by
 have e:Sp.enc x=spTx x 1++(Ed.encT x.host.data.toList++(Ed.encT x.note.data.toList++[])):=by simp [spTx,spNm,Sp.enc]
 rw [e,Ed.txt_enc _ _ _ h.host.len]
 simp [spTx]
theorem spTx_get2 {x:Sp.Span} (h:Sp.May x):Ed.txt (Sp.enc x) (spTx x 2).length=some (x.note.data.toList,(spTx x 3).length):=by
 have e:Sp.enc x=spTx x 2++(Ed.encT x.note.data.toList++[]):=by simp [spTx,spNm,Sp.enc]
 rw [e,Ed.txt_enc _ _ _ (by have:=h.note;rw [Sp.size_toList];omega)]
 simp [spTx]
theorem take_get {E:ByteArray} {s:List UInt8} {p p1 n:Nat} {z:Int} (W:World) (hE:E.data.toList=s) (hg:Var.get s p=some (n,p1)) (hz:(n:Int)=z) (hs:E.size≤maxLen) (hp:p≤9223372036854775807) :
  Calls Tryz.prog 145 #[.string E,.int .i64 p] W fun e w' => e=.returned (.tuple #[.int .i64 z,.int .i64 p1,.bool true])∧W=w':=by
 refine (get_any E p W hs hp).mono ?_
 rintro e w' ⟨rfl,rfl⟩
 rw [hE,hg]
 unfold gotE
 simp only
 rw [hz]
 first
 | exact ⟨rfl,rfl⟩
 | simp
theorem take_txt {E t:ByteArray} {s:List UInt8} {p p1:Nat} (W:World) (hE:E.data.toList=s) (hg:Ed.txt s p=some (t.data.toList,p1)) (hs:E.size≤maxLen) (hp:p≤9223372036854775807) :
  Calls Tryz.prog 92 #[.string E,.int .i64 p] W fun e w' => e=.returned (.tuple #[.string t,.int .i64 p1,.bool true])∧W=w':=by
 refine (getText_any E p W hs hp).mono ?_
 rintro e w' ⟨rfl,rfl⟩
 rw [hE,hg]
 unfold txtE
 simp only [Sp.toList_mk]
 first
 | exact ⟨rfl,rfl⟩
 | simp
section
variable {w w':World}
set_option maxHeartbeats 8000000 in
theorem htake_enc (x:Sp.Span) (hm:Sp.May x) (E:ByteArray) (hE:E.data.toList=Sp.enc x) :
  Calls Tryz.prog 150 #[.string E,.int .i64 0] w fun e w' => e=.returned (.tuple #[spV x,.int .i64 (Sp.enc x).length,.bool true])∧Below w.heap.size w w':=by
 have hel:=Sp.enc_len hm
 have HED:=Lib.hid hE
 have HEZ:=Lib.hid (show E.size≤maxLen from by have:=congrArg List.length hE;rw [Sp.size_toList] at this;unfold maxLen;omega)
 have HNL:=Lib.hid (fun (k:Nat) (hk:k≤5) => spNm_len hm k hk)
 have HTL:=Lib.hid (fun (k:Nat) (hk:k≤3) => spTx_len hm k hk)
 have HMAY:=Lib.hid hm
 obtain ⟨q,hq⟩:∃ q,q=w.heap.size:=⟨_,rfl⟩
 obtain ⟨w1,hw1⟩:∃ w1,w1=w.alloc (.cells #[.int .i64 0,.int .i64 0,.int .i64 0,.string ⟨#[]⟩,.string ⟨#[]⟩,.int .i64 0,.int .i64 0,.string ⟨#[]⟩] 47 (0,0)):=⟨_,rfl⟩
 have hb1:Below w.heap.size w w1:=by rw [hw1];exact (Below.refl _ _).alloc (Nat.le_refl _) _
 have hk1:Blk w1 q 47 (spCs x 0):=by rw [hw1,hq];exact Blk.alloc_new w _ _
 have HNS:=Lib.hid (hnums_any (w:=w1) q)
 unfold numsV at HNS
 have HQZ:=Lib.hid (show w.heap.size≤q from by omega)
 have HB1:=Lib.hid hb1
 have HK1:=Lib.hid hk1
 have HW1:=Lib.hid hw1
 obtain ⟨len,hlen⟩:∃ len,len=(Sp.enc x).length:=⟨_,rfl⟩
 rw [← hlen]
 have HLN:=Lib.hid hlen
 clear hel hE hm hb1 hk1 hw1 hlen
 go_enter Tryz.func150,Tryz.ntmps150
 go_wp2_with fail
 rw [← HW1.out,← hq]
 clear hq
 refine HNS.out.mono ?_
 rintro e w2 ⟨rfl,hb2⟩
 have HB2:=Lib.hid (HB1.out.trans (hb2.mono HB1.out.size))
 have HK2:=Lib.hid (HK1.out.below hb2)
 clear hb2
 go_wp2_with fail
 go_loopw [1,6,8,12] (fun v1 _ _ v12 wr => ∃ k:Nat,v12=.int .i64 k∧k≤5∧v1=.int .i64 (spNm x k).length∧Blk wr q 47 (spCs x k)∧Below w.heap.size w wr) (fun _ _ _ v12 _ => 5-(intOf v12).toNat)
 case atStart => exact ⟨0,rfl,by omega,rfl,HK2.out,HB2.out⟩
 case round =>
  obtain ⟨k,rfl,hk,rfl,hkb,hb⟩:=hrel
  have HK:=Lib.hid hkb
  have HB:=Lib.hid hb
  clear hkb hb HB2 HK2
  rcases (show k=0∨k=1∨k=2∨k=3∨k=4∨k=5 by omega) with rfl | rfl | rfl | rfl | rfl | rfl
  · have HGK:=Lib.hid (fun W:World => take_get (E:=E) (p:=(spNm x 0).length) W HED.out (spNm_get0 HMAY.out) (Int.toNat_of_nonneg (by have:=HMAY.out.trace;omega)) HEZ.out (by have:=HNL.out 0 (by omega);omega))
    obtain ⟨p0,hp0⟩:∃ p0,p0=(spNm x 0).length:=⟨_,rfl⟩
    obtain ⟨p1,hp1⟩:∃ p1,p1=(spNm x (0+1)).length:=⟨_,rfl⟩
    rw [← hp0] at HGK ⊢
    rw [← hp1] at HGK
    have HP1:=Lib.hid hp1
    obtain ⟨nv,hnv⟩:∃ nv,nv=x.trace:=⟨_,rfl⟩
    rw [← hnv] at HGK
    have HNV:=Lib.hid hnv
    have c0:=HK.out.cell 0
    have f0:=HK.out.free 0
    simp [spCs] at c0
    obtain ⟨qb,hqb⟩:∃ qb,qb=wr.heap.size:=⟨_,rfl⟩
    obtain ⟨wb,hwb⟩:∃ wb,wb=wr.alloc (.cells #[.pointer (some ⟨q,0,none⟩),.int .i64 1,.int .i64 2147483647] 166 (0,0)):=⟨_,rfl⟩
    have hbb:Below wr.heap.size wr wb:=by rw [hwb];exact (Below.refl _ _).alloc (Nat.le_refl _) _
    have hkb:Blk wb qb 166 #[.pointer (some ⟨q,0,none⟩),.int .i64 1,.int .i64 2147483647]:=by rw [hwb,hqb];exact Blk.alloc_new wr _ _
    have hne:qb≠q:=by have:=HK.out.lt;omega
    have HKQ:=Lib.hid (HK.out.below hbb)
    have HB2:=Lib.hid (HB.out.trans (hbb.mono HB.out.size))
    have HWB:=Lib.hid hwb
    have HKB:=Lib.hid hkb
    have NA:=num_at0 q
    clear hp0 hp1 hnv hwb hbb hkb
    go_wp2_with fail
    rw [← HWB.out,← hqb]
    clear hqb
    refine wp_region_two (T:=fun W => W.cell? ⟨qb,0,none⟩=some (.pointer (some ⟨q,0,none⟩))) (S:=fun _ => True) (n:=10) (by kernel_rfl) ?_
    obtain ⟨y1,hy1⟩:∃ y1,y1=wb.drew:=⟨_,rfl⟩
    rw [← hy1]
    have hby:Below wb.heap.size wb y1:=by rw [hy1];exact (Below.refl _ _).drew
    have HKY:=Lib.hid (HKQ.out.below hby)
    have HBY:=Lib.hid (HB2.out.trans (hby.mono HB2.out.size))
    have hS:True:=trivial
    have hT:=(HKB.out.below hby).cell 0
    have hkb1:=HKB.out.below hby
    have c1:=HKY.out.cell 0
    have f1:=HKY.out.free 0
    simp [spCs] at c1
    clear hy1 hby c0 f0
    refine tk 0 16 hT hS ?_
    refine tk 1 17 hT hS ?_
    refine tk 2 18 hT hS ?_
    refine tk 3 19 hT hS ?_
    try simp only [xq]
    refine two_one 4 rfl (by kernel_rfl) ?_
    intro K hK
    go_simp
    refine (HGK.out y1).mono ?_
    rintro e y2 ⟨rfl,rfl⟩
    refine hK.out _ _ hT (fun _ _ => hS) ?_
    clear hK K
    try simp only [xq]
    refine tk 5 15 hT hS ?_
    refine tk 6 21 hT hS ?_
    refine tk 7 22 hT hS ?_
    refine tk 8 23 hT hS ?_
    refine tk 9 24 hT hS ?_
    try simp only [xq]
    refine two_one 10 rfl (by kernel_rfl) ?_
    intro K hK
    go_simp
    have hk2:=HKY.out.set 0 (.int .i64 nv)
    have hT2:=(hkb1.chg ((Chg.refl (fun k => k=q) y1).setCell (p:=⟨q,0,none⟩) (fun _ => rfl) (.int .i64 nv)) hne).cell 0
    refine hK.out _ _ hT2 (fun _ e => absurd rfl e) ?_
    have HK2:=Lib.hid (show Blk (y1.setCell ⟨q,0,none⟩ (.int .i64 nv)) q 47 (spCs x (0+1)) from by
     have:=hk2
     simp only [spCs,List.setIfInBounds_toArray,List.set_cons_zero,List.set_cons_succ] at this ⊢
     rw [HNV.out] at this ⊢
     exact this)
    have HB3:=Lib.hid (HBY.out.setCell (p:=⟨q,0,none⟩) HQZ.out (.int .i64 nv))
    clear hK K hT hkb1 hk2 c1 f1
    have hT:=hT2
    clear hT2
    try simp only [xq]
    refine two_one 11 rfl (by kernel_rfl) ?_
    intro K hK
    go_simp
    refine hK.out _ _ hT (fun _ _ => hS) ?_
    clear hK K
    try simp only [xq]
    refine two_one 12 rfl (by kernel_rfl) ?_
    intro K hK
    go_simp
    refine hK.out _ _ hT (fun _ _ => hS) ?_
    clear hK K
    try simp only [xq]
    refine two_done (by kernel_rfl) ?_ _
    clear hT hS
    go_wp2_with fail
    go_roundw
    case rel => exact ⟨0+1,by go_num,by omega,by rw [HP1.out],HK2.out,HB3.out⟩
    case measure => simp [intOf]
  · have HGK:=Lib.hid (fun W:World => take_get (E:=E) (p:=(spNm x 1).length) W HED.out (spNm_get1 HMAY.out) (Int.toNat_of_nonneg (by have:=HMAY.out.id;omega)) HEZ.out (by have:=HNL.out 1 (by omega);omega))
    obtain ⟨p0,hp0⟩:∃ p0,p0=(spNm x 1).length:=⟨_,rfl⟩
    obtain ⟨p1,hp1⟩:∃ p1,p1=(spNm x (1+1)).length:=⟨_,rfl⟩
    rw [← hp0] at HGK ⊢
    rw [← hp1] at HGK
    have HP1:=Lib.hid hp1
    obtain ⟨nv,hnv⟩:∃ nv,nv=x.id:=⟨_,rfl⟩
    rw [← hnv] at HGK
    have HNV:=Lib.hid hnv
    have c0:=HK.out.cell 1
    have f0:=HK.out.free 1
    simp [spCs] at c0
    obtain ⟨qb,hqb⟩:∃ qb,qb=wr.heap.size:=⟨_,rfl⟩
    obtain ⟨wb,hwb⟩:∃ wb,wb=wr.alloc (.cells #[.pointer (some ⟨q,1,none⟩),.int .i64 1,.int .i64 2147483647] 166 (0,0)):=⟨_,rfl⟩
    have hbb:Below wr.heap.size wr wb:=by rw [hwb];exact (Below.refl _ _).alloc (Nat.le_refl _) _
    have hkb:Blk wb qb 166 #[.pointer (some ⟨q,1,none⟩),.int .i64 1,.int .i64 2147483647]:=by rw [hwb,hqb];exact Blk.alloc_new wr _ _
    have hne:qb≠q:=by have:=HK.out.lt;omega
    have HKQ:=Lib.hid (HK.out.below hbb)
    have HB2:=Lib.hid (HB.out.trans (hbb.mono HB.out.size))
    have HWB:=Lib.hid hwb
    have HKB:=Lib.hid hkb
    have NA:=num_at1 q
    clear hp0 hp1 hnv hwb hbb hkb
    go_wp2_with fail
    rw [← HWB.out,← hqb]
    clear hqb
    refine wp_region_two (T:=fun W => W.cell? ⟨qb,0,none⟩=some (.pointer (some ⟨q,1,none⟩))) (S:=fun _ => True) (n:=10) (by kernel_rfl) ?_
    obtain ⟨y1,hy1⟩:∃ y1,y1=wb.drew:=⟨_,rfl⟩
    rw [← hy1]
    have hby:Below wb.heap.size wb y1:=by rw [hy1];exact (Below.refl _ _).drew
    have HKY:=Lib.hid (HKQ.out.below hby)
    have HBY:=Lib.hid (HB2.out.trans (hby.mono HB2.out.size))
    have hS:True:=trivial
    have hT:=(HKB.out.below hby).cell 0
    have hkb1:=HKB.out.below hby
    have c1:=HKY.out.cell 1
    have f1:=HKY.out.free 1
    simp [spCs] at c1
    clear hy1 hby c0 f0
    refine tk 0 16 hT hS ?_
    refine tk 1 17 hT hS ?_
    refine tk 2 18 hT hS ?_
    refine tk 3 19 hT hS ?_
    try simp only [xq]
    refine two_one 4 rfl (by kernel_rfl) ?_
    intro K hK
    go_simp
    refine (HGK.out y1).mono ?_
    rintro e y2 ⟨rfl,rfl⟩
    refine hK.out _ _ hT (fun _ _ => hS) ?_
    clear hK K
    try simp only [xq]
    refine tk 5 15 hT hS ?_
    refine tk 6 21 hT hS ?_
    refine tk 7 22 hT hS ?_
    refine tk 8 23 hT hS ?_
    refine tk 9 24 hT hS ?_
    try simp only [xq]
    refine two_one 10 rfl (by kernel_rfl) ?_
    intro K hK
    go_simp
    have hk2:=HKY.out.set 1 (.int .i64 nv)
    have hT2:=(hkb1.chg ((Chg.refl (fun k => k=q) y1).setCell (p:=⟨q,1,none⟩) (fun _ => rfl) (.int .i64 nv)) hne).cell 0
    refine hK.out _ _ hT2 (fun _ e => absurd rfl e) ?_
    have HK2:=Lib.hid (show Blk (y1.setCell ⟨q,1,none⟩ (.int .i64 nv)) q 47 (spCs x (1+1)) from by
     have:=hk2
     simp only [spCs,List.setIfInBounds_toArray,List.set_cons_zero,List.set_cons_succ] at this ⊢
     rw [HNV.out] at this ⊢
     exact this)
    have HB3:=Lib.hid (HBY.out.setCell (p:=⟨q,1,none⟩) HQZ.out (.int .i64 nv))
    clear hK K hT hkb1 hk2 c1 f1
    have hT:=hT2
    clear hT2
    try simp only [xq]
    refine two_one 11 rfl (by kernel_rfl) ?_
    intro K hK
    go_simp
    refine hK.out _ _ hT (fun _ _ => hS) ?_
    clear hK K
    try simp only [xq]
    refine two_one 12 rfl (by kernel_rfl) ?_
    intro K hK
    go_simp
    refine hK.out _ _ hT (fun _ _ => hS) ?_
    clear hK K
    try simp only [xq]
    refine two_done (by kernel_rfl) ?_ _
    clear hT hS
    go_wp2_with fail
    go_roundw
    case rel => exact ⟨1+1,by go_num,by omega,by rw [HP1.out],HK2.out,HB3.out⟩
    case measure => simp [intOf]
  · have HGK:=Lib.hid (fun W:World => take_get (E:=E) (p:=(spNm x 2).length) W HED.out (spNm_get2 HMAY.out) (Int.toNat_of_nonneg (by have:=HMAY.out.parent;omega)) HEZ.out (by have:=HNL.out 2 (by omega);omega))
    obtain ⟨p0,hp0⟩:∃ p0,p0=(spNm x 2).length:=⟨_,rfl⟩
    obtain ⟨p1,hp1⟩:∃ p1,p1=(spNm x (2+1)).length:=⟨_,rfl⟩
    rw [← hp0] at HGK ⊢
    rw [← hp1] at HGK
    have HP1:=Lib.hid hp1
    obtain ⟨nv,hnv⟩:∃ nv,nv=x.parent:=⟨_,rfl⟩
    rw [← hnv] at HGK
    have HNV:=Lib.hid hnv
    have c0:=HK.out.cell 2
    have f0:=HK.out.free 2
    simp [spCs] at c0
    obtain ⟨qb,hqb⟩:∃ qb,qb=wr.heap.size:=⟨_,rfl⟩
    obtain ⟨wb,hwb⟩:∃ wb,wb=wr.alloc (.cells #[.pointer (some ⟨q,2,none⟩),.int .i64 0,.int .i64 2147483647] 166 (0,0)):=⟨_,rfl⟩
    have hbb:Below wr.heap.size wr wb:=by rw [hwb];exact (Below.refl _ _).alloc (Nat.le_refl _) _
    have hkb:Blk wb qb 166 #[.pointer (some ⟨q,2,none⟩),.int .i64 0,.int .i64 2147483647]:=by rw [hwb,hqb];exact Blk.alloc_new wr _ _
    have hne:qb≠q:=by have:=HK.out.lt;omega
    have HKQ:=Lib.hid (HK.out.below hbb)
    have HB2:=Lib.hid (HB.out.trans (hbb.mono HB.out.size))
    have HWB:=Lib.hid hwb
    have HKB:=Lib.hid hkb
    have NA:=num_at2 q
    clear hp0 hp1 hnv hwb hbb hkb
    go_wp2_with fail
    rw [← HWB.out,← hqb]
    clear hqb
    refine wp_region_two (T:=fun W => W.cell? ⟨qb,0,none⟩=some (.pointer (some ⟨q,2,none⟩))) (S:=fun _ => True) (n:=10) (by kernel_rfl) ?_
    obtain ⟨y1,hy1⟩:∃ y1,y1=wb.drew:=⟨_,rfl⟩
    rw [← hy1]
    have hby:Below wb.heap.size wb y1:=by rw [hy1];exact (Below.refl _ _).drew
    have HKY:=Lib.hid (HKQ.out.below hby)
    have HBY:=Lib.hid (HB2.out.trans (hby.mono HB2.out.size))
    have hS:True:=trivial
    have hT:=(HKB.out.below hby).cell 0
    have hkb1:=HKB.out.below hby
    have c1:=HKY.out.cell 2
    have f1:=HKY.out.free 2
    simp [spCs] at c1
    clear hy1 hby c0 f0
    refine tk 0 16 hT hS ?_
    refine tk 1 17 hT hS ?_
    refine tk 2 18 hT hS ?_
    refine tk 3 19 hT hS ?_
    try simp only [xq]
    refine two_one 4 rfl (by kernel_rfl) ?_
    intro K hK
    go_simp
    refine (HGK.out y1).mono ?_
    rintro e y2 ⟨rfl,rfl⟩
    refine hK.out _ _ hT (fun _ _ => hS) ?_
    clear hK K
    try simp only [xq]
    refine tk 5 15 hT hS ?_
    refine tk 6 21 hT hS ?_
    refine tk 7 22 hT hS ?_
    refine tk 8 23 hT hS ?_
    refine tk 9 24 hT hS ?_
    try simp only [xq]
    refine two_one 10 rfl (by kernel_rfl) ?_
    intro K hK
    go_simp
    have hk2:=HKY.out.set 2 (.int .i64 nv)
    have hT2:=(hkb1.chg ((Chg.refl (fun k => k=q) y1).setCell (p:=⟨q,2,none⟩) (fun _ => rfl) (.int .i64 nv)) hne).cell 0
    refine hK.out _ _ hT2 (fun _ e => absurd rfl e) ?_
    have HK2:=Lib.hid (show Blk (y1.setCell ⟨q,2,none⟩ (.int .i64 nv)) q 47 (spCs x (2+1)) from by
     have:=hk2
     simp only [spCs,List.setIfInBounds_toArray,List.set_cons_zero,List.set_cons_succ] at this ⊢
     rw [HNV.out] at this ⊢
     exact this)
    have HB3:=Lib.hid (HBY.out.setCell (p:=⟨q,2,none⟩) HQZ.out (.int .i64 nv))
    clear hK K hT hkb1 hk2 c1 f1
    have hT:=hT2
    clear hT2
    try simp only [xq]
    refine two_one 11 rfl (by kernel_rfl) ?_
    intro K hK
    go_simp
    refine hK.out _ _ hT (fun _ _ => hS) ?_
    clear hK K
    try simp only [xq]
    refine two_one 12 rfl (by kernel_rfl) ?_
    intro K hK
    go_simp
    refine hK.out _ _ hT (fun _ _ => hS) ?_
    clear hK K
    try simp only [xq]
    refine two_done (by kernel_rfl) ?_ _
    clear hT hS
    go_wp2_with fail
    go_roundw
    case rel => exact ⟨2+1,by go_num,by omega,by rw [HP1.out],HK2.out,HB3.out⟩
    case measure => simp [intOf]
  · have HGK:=Lib.hid (fun W:World => take_get (E:=E) (p:=(spNm x 3).length) W HED.out (spNm_get3 HMAY.out) (Int.toNat_of_nonneg (by have:=HMAY.out.start;omega)) HEZ.out (by have:=HNL.out 3 (by omega);omega))
    obtain ⟨p0,hp0⟩:∃ p0,p0=(spNm x 3).length:=⟨_,rfl⟩
    obtain ⟨p1,hp1⟩:∃ p1,p1=(spNm x (3+1)).length:=⟨_,rfl⟩
    rw [← hp0] at HGK ⊢
    rw [← hp1] at HGK
    have HP1:=Lib.hid hp1
    obtain ⟨nv,hnv⟩:∃ nv,nv=x.start:=⟨_,rfl⟩
    rw [← hnv] at HGK
    have HNV:=Lib.hid hnv
    have c0:=HK.out.cell 5
    have f0:=HK.out.free 5
    simp [spCs] at c0
    obtain ⟨qb,hqb⟩:∃ qb,qb=wr.heap.size:=⟨_,rfl⟩
    obtain ⟨wb,hwb⟩:∃ wb,wb=wr.alloc (.cells #[.pointer (some ⟨q,5,none⟩),.int .i64 0,.int .i64 1073741824] 166 (0,0)):=⟨_,rfl⟩
    have hbb:Below wr.heap.size wr wb:=by rw [hwb];exact (Below.refl _ _).alloc (Nat.le_refl _) _
    have hkb:Blk wb qb 166 #[.pointer (some ⟨q,5,none⟩),.int .i64 0,.int .i64 1073741824]:=by rw [hwb,hqb];exact Blk.alloc_new wr _ _
    have hne:qb≠q:=by have:=HK.out.lt;omega
    have HKQ:=Lib.hid (HK.out.below hbb)
    have HB2:=Lib.hid (HB.out.trans (hbb.mono HB.out.size))
    have HWB:=Lib.hid hwb
    have HKB:=Lib.hid hkb
    have NA:=num_at3 q
    clear hp0 hp1 hnv hwb hbb hkb
    go_wp2_with fail
    rw [← HWB.out,← hqb]
    clear hqb
    refine wp_region_two (T:=fun W => W.cell? ⟨qb,0,none⟩=some (.pointer (some ⟨q,5,none⟩))) (S:=fun _ => True) (n:=10) (by kernel_rfl) ?_
    obtain ⟨y1,hy1⟩:∃ y1,y1=wb.drew:=⟨_,rfl⟩
    rw [← hy1]
    have hby:Below wb.heap.size wb y1:=by rw [hy1];exact (Below.refl _ _).drew
    have HKY:=Lib.hid (HKQ.out.below hby)
    have HBY:=Lib.hid (HB2.out.trans (hby.mono HB2.out.size))
    have hS:True:=trivial
    have hT:=(HKB.out.below hby).cell 0
    have hkb1:=HKB.out.below hby
    have c1:=HKY.out.cell 5
    have f1:=HKY.out.free 5
    simp [spCs] at c1
    clear hy1 hby c0 f0
    refine tk 0 16 hT hS ?_
    refine tk 1 17 hT hS ?_
    refine tk 2 18 hT hS ?_
    refine tk 3 19 hT hS ?_
    try simp only [xq]
    refine two_one 4 rfl (by kernel_rfl) ?_
    intro K hK
    go_simp
    refine (HGK.out y1).mono ?_
    rintro e y2 ⟨rfl,rfl⟩
    refine hK.out _ _ hT (fun _ _ => hS) ?_
    clear hK K
    try simp only [xq]
    refine tk 5 15 hT hS ?_
    refine tk 6 21 hT hS ?_
    refine tk 7 22 hT hS ?_
    refine tk 8 23 hT hS ?_
    refine tk 9 24 hT hS ?_
    try simp only [xq]
    refine two_one 10 rfl (by kernel_rfl) ?_
    intro K hK
    go_simp
    have hk2:=HKY.out.set 5 (.int .i64 nv)
    have hT2:=(hkb1.chg ((Chg.refl (fun k => k=q) y1).setCell (p:=⟨q,5,none⟩) (fun _ => rfl) (.int .i64 nv)) hne).cell 0
    refine hK.out _ _ hT2 (fun _ e => absurd rfl e) ?_
    have HK2:=Lib.hid (show Blk (y1.setCell ⟨q,5,none⟩ (.int .i64 nv)) q 47 (spCs x (3+1)) from by
     have:=hk2
     simp only [spCs,List.setIfInBounds_toArray,List.set_cons_zero,List.set_cons_succ] at this ⊢
     rw [HNV.out] at this ⊢
     exact this)
    have HB3:=Lib.hid (HBY.out.setCell (p:=⟨q,5,none⟩) HQZ.out (.int .i64 nv))
    clear hK K hT hkb1 hk2 c1 f1
    have hT:=hT2
    clear hT2
    try simp only [xq]
    refine two_one 11 rfl (by kernel_rfl) ?_
    intro K hK
    go_simp
    refine hK.out _ _ hT (fun _ _ => hS) ?_
    clear hK K
    try simp only [xq]
    refine two_one 12 rfl (by kernel_rfl) ?_
    intro K hK
    go_simp
    refine hK.out _ _ hT (fun _ _ => hS) ?_
    clear hK K
    try simp only [xq]
    refine two_done (by kernel_rfl) ?_ _
    clear hT hS
    go_wp2_with fail
    go_roundw
    case rel => exact ⟨3+1,by go_num,by omega,by rw [HP1.out],HK2.out,HB3.out⟩
    case measure => simp [intOf]
  · have HGK:=Lib.hid (fun W:World => take_get (E:=E) (p:=(spNm x 4).length) W HED.out (spNm_get4 HMAY.out) (Int.toNat_of_nonneg (by have:=HMAY.out.dur;omega)) HEZ.out (by have:=HNL.out 4 (by omega);omega))
    obtain ⟨p0,hp0⟩:∃ p0,p0=(spNm x 4).length:=⟨_,rfl⟩
    obtain ⟨p1,hp1⟩:∃ p1,p1=(spNm x (4+1)).length:=⟨_,rfl⟩
    rw [← hp0] at HGK ⊢
    rw [← hp1] at HGK
    have HP1:=Lib.hid hp1
    obtain ⟨nv,hnv⟩:∃ nv,nv=x.dur:=⟨_,rfl⟩
    rw [← hnv] at HGK
    have HNV:=Lib.hid hnv
    have c0:=HK.out.cell 6
    have f0:=HK.out.free 6
    simp [spCs] at c0
    obtain ⟨qb,hqb⟩:∃ qb,qb=wr.heap.size:=⟨_,rfl⟩
    obtain ⟨wb,hwb⟩:∃ wb,wb=wr.alloc (.cells #[.pointer (some ⟨q,6,none⟩),.int .i64 0,.int .i64 1073741824] 166 (0,0)):=⟨_,rfl⟩
    have hbb:Below wr.heap.size wr wb:=by rw [hwb];exact (Below.refl _ _).alloc (Nat.le_refl _) _
    have hkb:Blk wb qb 166 #[.pointer (some ⟨q,6,none⟩),.int .i64 0,.int .i64 1073741824]:=by rw [hwb,hqb];exact Blk.alloc_new wr _ _
    have hne:qb≠q:=by have:=HK.out.lt;omega
    have HKQ:=Lib.hid (HK.out.below hbb)
    have HB2:=Lib.hid (HB.out.trans (hbb.mono HB.out.size))
    have HWB:=Lib.hid hwb
    have HKB:=Lib.hid hkb
    have NA:=num_at4 q
    clear hp0 hp1 hnv hwb hbb hkb
    go_wp2_with fail
    rw [← HWB.out,← hqb]
    clear hqb
    refine wp_region_two (T:=fun W => W.cell? ⟨qb,0,none⟩=some (.pointer (some ⟨q,6,none⟩))) (S:=fun _ => True) (n:=10) (by kernel_rfl) ?_
    obtain ⟨y1,hy1⟩:∃ y1,y1=wb.drew:=⟨_,rfl⟩
    rw [← hy1]
    have hby:Below wb.heap.size wb y1:=by rw [hy1];exact (Below.refl _ _).drew
    have HKY:=Lib.hid (HKQ.out.below hby)
    have HBY:=Lib.hid (HB2.out.trans (hby.mono HB2.out.size))
    have hS:True:=trivial
    have hT:=(HKB.out.below hby).cell 0
    have hkb1:=HKB.out.below hby
    have c1:=HKY.out.cell 6
    have f1:=HKY.out.free 6
    simp [spCs] at c1
    clear hy1 hby c0 f0
    refine tk 0 16 hT hS ?_
    refine tk 1 17 hT hS ?_
    refine tk 2 18 hT hS ?_
    refine tk 3 19 hT hS ?_
    try simp only [xq]
    refine two_one 4 rfl (by kernel_rfl) ?_
    intro K hK
    go_simp
    refine (HGK.out y1).mono ?_
    rintro e y2 ⟨rfl,rfl⟩
    refine hK.out _ _ hT (fun _ _ => hS) ?_
    clear hK K
    try simp only [xq]
    refine tk 5 15 hT hS ?_
    refine tk 6 21 hT hS ?_
    refine tk 7 22 hT hS ?_
    refine tk 8 23 hT hS ?_
    refine tk 9 24 hT hS ?_
    try simp only [xq]
    refine two_one 10 rfl (by kernel_rfl) ?_
    intro K hK
    go_simp
    have hk2:=HKY.out.set 6 (.int .i64 nv)
    have hT2:=(hkb1.chg ((Chg.refl (fun k => k=q) y1).setCell (p:=⟨q,6,none⟩) (fun _ => rfl) (.int .i64 nv)) hne).cell 0
    refine hK.out _ _ hT2 (fun _ e => absurd rfl e) ?_
    have HK2:=Lib.hid (show Blk (y1.setCell ⟨q,6,none⟩ (.int .i64 nv)) q 47 (spCs x (4+1)) from by
     have:=hk2
     simp only [spCs,List.setIfInBounds_toArray,List.set_cons_zero,List.set_cons_succ] at this ⊢
     rw [HNV.out] at this ⊢
     exact this)
    have HB3:=Lib.hid (HBY.out.setCell (p:=⟨q,6,none⟩) HQZ.out (.int .i64 nv))
    clear hK K hT hkb1 hk2 c1 f1
    have hT:=hT2
    clear hT2
    try simp only [xq]
    refine two_one 11 rfl (by kernel_rfl) ?_
    intro K hK
    go_simp
    refine hK.out _ _ hT (fun _ _ => hS) ?_
    clear hK K
    try simp only [xq]
    refine two_one 12 rfl (by kernel_rfl) ?_
    intro K hK
    go_simp
    refine hK.out _ _ hT (fun _ _ => hS) ?_
    clear hK K
    try simp only [xq]
    refine two_done (by kernel_rfl) ?_ _
    clear hT hS
    go_wp2_with fail
    go_roundw
    case rel => exact ⟨4+1,by go_num,by omega,by rw [HP1.out],HK2.out,HB3.out⟩
    case measure => simp [intOf]
  · have hpe:(spNm x 5).length=(spTx x 0).length:=by simp [spTx]
    rw [hpe]
    have HK0:=Lib.hid (show Blk wr q 47 (spCt x 0) from HK.out)
    have HTX:=Lib.hid (htxts_any (w:=wr) q)
    unfold txtsV at HTX
    clear hpe
    go_wp2_with fail
    refine HTX.out.mono ?_
    rintro e w3 ⟨rfl,hb3⟩
    have HB3:=Lib.hid (HB.out.trans (hb3.mono HB.out.size))
    have HK3:=Lib.hid (HK0.out.below hb3)
    clear hb3 HK HB HK0
    go_wp2_with fail
    go_loopw [1,6,10,30] (fun v1 _ _ v30 wr => ∃ k:Nat,v30=.int .i64 k∧k≤3∧v1=.int .i64 (spTx x k).length∧Blk wr q 47 (spCt x k)∧Below w.heap.size w wr) (fun _ _ _ v30 _ => 3-(intOf v30).toNat)
    case atStart => exact ⟨0,rfl,by omega,rfl,HK3.out,HB3.out⟩
    case round =>
     obtain ⟨k,rfl,hk3,rfl,hkb,hb⟩:=hrel
     have HK:=Lib.hid hkb
     have HB:=Lib.hid hb
     clear hkb hb HB3 HK3
     rcases (show k=0∨k=1∨k=2∨k=3 by omega) with rfl | rfl | rfl | rfl
     · have HGK:=Lib.hid (fun W:World => take_txt (E:=E) (p:=(spTx x 0).length) W HED.out (spTx_get0 HMAY.out) HEZ.out (by have:=HTL.out 0 (by omega);omega))
       obtain ⟨p0,hp0⟩:∃ p0,p0=(spTx x 0).length:=⟨_,rfl⟩
       obtain ⟨p1,hp1⟩:∃ p1,p1=(spTx x (0+1)).length:=⟨_,rfl⟩
       rw [← hp0] at HGK ⊢
       rw [← hp1] at HGK
       have HP1:=Lib.hid hp1
       obtain ⟨nv,hnv⟩:∃ nv,nv=x.service:=⟨_,rfl⟩
       rw [← hnv] at HGK
       have HNV:=Lib.hid hnv
       have TA:=txt_at0 q
       clear hp0 hp1 hnv
       go_wp2_with fail
       have c1:=HK.out.cell 3
       have f1:=HK.out.free 3
       simp [spCt] at c1
       refine (HGK.out wr).mono ?_
       rintro e y2 ⟨rfl,rfl⟩
       have hk2:=HK.out.set 3 (.string nv)
       have HK2:=Lib.hid (show Blk (wr.setCell ⟨q,3,none⟩ (.string nv)) q 47 (spCt x (0+1)) from by
        have:=hk2
        simp only [spCt,List.setIfInBounds_toArray,List.set_cons_zero,List.set_cons_succ] at this ⊢
        rw [HNV.out] at this ⊢
        exact this)
       have HB3:=Lib.hid (HB.out.setCell (p:=⟨q,3,none⟩) HQZ.out (.string nv))
       clear hk2
       go_wp2_with fail
       go_roundw
       case rel => exact ⟨0+1,by go_num,by omega,by rw [HP1.out],HK2.out,HB3.out⟩
       case measure => simp [intOf]
     · have HGK:=Lib.hid (fun W:World => take_txt (E:=E) (p:=(spTx x 1).length) W HED.out (spTx_get1 HMAY.out) HEZ.out (by have:=HTL.out 1 (by omega);omega))
       obtain ⟨p0,hp0⟩:∃ p0,p0=(spTx x 1).length:=⟨_,rfl⟩
       obtain ⟨p1,hp1⟩:∃ p1,p1=(spTx x (1+1)).length:=⟨_,rfl⟩
       rw [← hp0] at HGK ⊢
       rw [← hp1] at HGK
       have HP1:=Lib.hid hp1
       obtain ⟨nv,hnv⟩:∃ nv,nv=x.host:=⟨_,rfl⟩
       rw [← hnv] at HGK
       have HNV:=Lib.hid hnv
       have TA:=txt_at1 q
       clear hp0 hp1 hnv
       go_wp2_with fail
       have c1:=HK.out.cell 4
       have f1:=HK.out.free 4
       simp [spCt] at c1
       refine (HGK.out wr).mono ?_
       rintro e y2 ⟨rfl,rfl⟩
       have hk2:=HK.out.set 4 (.string nv)
       have HK2:=Lib.hid (show Blk (wr.setCell ⟨q,4,none⟩ (.string nv)) q 47 (spCt x (1+1)) from by
        have:=hk2
        simp only [spCt,List.setIfInBounds_toArray,List.set_cons_zero,List.set_cons_succ] at this ⊢
        rw [HNV.out] at this ⊢
        exact this)
       have HB3:=Lib.hid (HB.out.setCell (p:=⟨q,4,none⟩) HQZ.out (.string nv))
       clear hk2
       go_wp2_with fail
       go_roundw
       case rel => exact ⟨1+1,by go_num,by omega,by rw [HP1.out],HK2.out,HB3.out⟩
       case measure => simp [intOf]
     · have HGK:=Lib.hid (fun W:World => take_txt (E:=E) (p:=(spTx x 2).length) W HED.out (spTx_get2 HMAY.out) HEZ.out (by have:=HTL.out 2 (by omega);omega))
       obtain ⟨p0,hp0⟩:∃ p0,p0=(spTx x 2).length:=⟨_,rfl⟩
       obtain ⟨p1,hp1⟩:∃ p1,p1=(spTx x (2+1)).length:=⟨_,rfl⟩
       rw [← hp0] at HGK ⊢
       rw [← hp1] at HGK
       have HP1:=Lib.hid hp1
       obtain ⟨nv,hnv⟩:∃ nv,nv=x.note:=⟨_,rfl⟩
       rw [← hnv] at HGK
       have HNV:=Lib.hid hnv
       have TA:=txt_at2 q
       clear hp0 hp1 hnv
       go_wp2_with fail
       have c1:=HK.out.cell 7
       have f1:=HK.out.free 7
       simp [spCt] at c1
       refine (HGK.out wr).mono ?_
       rintro e y2 ⟨rfl,rfl⟩
       have hk2:=HK.out.set 7 (.string nv)
       have HK2:=Lib.hid (show Blk (wr.setCell ⟨q,7,none⟩ (.string nv)) q 47 (spCt x (2+1)) from by
        have:=hk2
        simp only [spCt,List.setIfInBounds_toArray,List.set_cons_zero,List.set_cons_succ] at this ⊢
        rw [HNV.out] at this ⊢
        exact this)
       have HB3:=Lib.hid (HB.out.setCell (p:=⟨q,7,none⟩) HQZ.out (.string nv))
       clear hk2
       go_wp2_with fail
       go_roundw
       case rel => exact ⟨2+1,by go_num,by omega,by rw [HP1.out],HK2.out,HB3.out⟩
       case measure => simp [intOf]
     · rw [spTx_enc,← HLN.out]
       have k0:=HK.out.cell 0
       have k1:=HK.out.cell 1
       have k2:=HK.out.cell 2
       have k3:=HK.out.cell 3
       have k4:=HK.out.cell 4
       have k5:=HK.out.cell 5
       have k6:=HK.out.cell 6
       have k7:=HK.out.cell 7
       simp [spCt] at k0 k1 k2 k3 k4 k5 k6 k7
       have f0:=HK.out.free 0
       have f1:=HK.out.free 1
       have f2:=HK.out.free 2
       have f3:=HK.out.free 3
       have f4:=HK.out.free 4
       have f5:=HK.out.free 5
       have f6:=HK.out.free 6
       have f7:=HK.out.free 7
       obtain ⟨tr,id,pa,se,ho,sa,du,no⟩:=x
       simp only at k0 k1 k2 k3 k4 k5 k6 k7
       have hk8:=(((((((HK.out.set 0 (.int .i64 tr)).set 1 (.int .i64 id)).set 2 (.int .i64 pa)).set 3 (.string se)).set 4 (.string ho)).set 5 (.int .i64 sa)).set 6 (.int .i64 du)).set 7 (.string no)
       have hb8:=(((((((HB.out.setCell (p:=⟨q,0,none⟩) HQZ.out (.int .i64 tr)).setCell (p:=⟨q,1,none⟩) HQZ.out (.int .i64 id)).setCell (p:=⟨q,2,none⟩) HQZ.out (.int .i64 pa)).setCell (p:=⟨q,3,none⟩) HQZ.out (.string se)).setCell (p:=⟨q,4,none⟩) HQZ.out (.string ho)).setCell (p:=⟨q,5,none⟩) HQZ.out (.int .i64 sa)).setCell (p:=⟨q,6,none⟩) HQZ.out (.int .i64 du)).setCell (p:=⟨q,7,none⟩) HQZ.out (.string no)
       simp only [spCt,List.setIfInBounds_toArray,List.set_cons_zero,List.set_cons_succ] at hk8
       have HK8:=Lib.hid hk8
       have HB8:=Lib.hid hb8
       clear hk8 hb8
       go_wp2_with fail
       have r0:=HK8.out.cell 0
       have r1:=HK8.out.cell 1
       have r2:=HK8.out.cell 2
       have r3:=HK8.out.cell 3
       have r4:=HK8.out.cell 4
       have r5:=HK8.out.cell 5
       have r6:=HK8.out.cell 6
       have r7:=HK8.out.cell 7
       simp only [List.getElem?_toArray,List.getElem?_cons_zero,List.getElem?_cons_succ] at r0 r1 r2 r3 r4 r5 r6 r7
       refine bodyPost_ret (v:=.tuple #[.agg #[.int .i64 tr,.int .i64 id,.int .i64 pa,.string se,.string ho,.int .i64 sa,.int .i64 du,.string no],.int .i64 len,.bool true]) (by simp [results,Tryz.results150,go_sem,r0,r1,r2,r3,r4,r5,r6,r7]) rfl ?_
       exact ⟨rfl,HB8.out⟩
end
end Go.Proofs.YtdacanghbepjpaaGreatDoor
namespace Go.Proofs.YtdacanghbepjpaaGreatDoor
set_option linter.unusedSimpArgs false
set_option linter.unusedVariables false
set_option maxRecDepth 100000
open Go.RowKit Go.Maps
section
variable {w w':World}
set_option maxHeartbeats 16000000 in
theorem hdecode_enc (x:Sp.Span) (hm:Sp.May x) (E:ByteArray) (hE:E.data.toList=Sp.enc x) :
  Calls Tryz.prog 93 #[.string E] w fun e w' => e=.returned (.tuple #[spV x,.int .i64 0])∧Below w.heap.size w w':=by
 have HTK:=Lib.hid (fun W:World => htake_enc (w:=W) x hm E hE)
 have HCK:=Lib.hid (fun W:World => hcheck_any (w:=W) x (by have:=hm.service.2.1;unfold maxLen;omega) (by have:=hm.host.2.1;unfold maxLen;omega) (by have:=hm.note;unfold maxLen;omega))
 rw [if_pos hm] at HCK
 have hel:=Sp.enc_len hm
 obtain ⟨len,hlen⟩:∃ len,len=(Sp.enc x).length:=⟨_,rfl⟩
 rw [← hlen] at HTK hel
 have hEz:E.size=len:=by have:=congrArg List.length hE;rw [Sp.size_toList] at this;omega
 have hnl:¬ (len:Int)<E.size:=by omega
 have hnl2:¬ len<E.size:=by omega
 have hEm:E.size≤1000:=by omega
 obtain ⟨q,hq⟩:∃ q,q=w.heap.size:=⟨_,rfl⟩
 obtain ⟨w1,hw1⟩:∃ w1,w1=w.alloc (.cells #[.int .i64 0,.int .i64 0,.int .i64 0,.string ⟨#[]⟩,.string ⟨#[]⟩,.int .i64 0,.int .i64 0,.string ⟨#[]⟩] 47 (0,0)):=⟨_,rfl⟩
 have hb1:Below w.heap.size w w1:=by rw [hw1];exact (Below.refl _ _).alloc (Nat.le_refl _) _
 have hk1:Blk w1 q 47 #[.int .i64 0,.int .i64 0,.int .i64 0,.string ⟨#[]⟩,.string ⟨#[]⟩,.int .i64 0,.int .i64 0,.string ⟨#[]⟩]:=by rw [hw1,hq];exact Blk.alloc_new w _ _
 have HQZ:=Lib.hid (show w.heap.size≤q from by omega)
 have HB1:=Lib.hid hb1
 have HK1:=Lib.hid hk1
 have HW1:=Lib.hid hw1
 obtain ⟨tr,id,pa,se,ho,sa,du,no⟩:=x
 unfold spV at HTK HCK ⊢
 simp only at HTK HCK ⊢
 clear hm hE hel hlen hEz hb1 hk1 hw1
 go_enter Tryz.func93,Tryz.ntmps93
 go_wp2_with fail
 rw [← HW1.out,← hq]
 clear hq
 refine (HTK.out w1).mono ?_
 rintro e w2 ⟨rfl,hb2⟩
 have HB2:=Lib.hid (HB1.out.trans (hb2.mono HB1.out.size))
 have HK2:=Lib.hid (HK1.out.below hb2)
 clear hb2
 obtain ⟨q4,hq4⟩:∃ q4,q4=w2.heap.size:=⟨_,rfl⟩
 obtain ⟨w3,hw3⟩:∃ w3,w3=w2.alloc (.cells #[.int .i64 tr,.int .i64 id,.int .i64 pa,.string se,.string ho,.int .i64 sa,.int .i64 du,.string no] 47 (0,0)):=⟨_,rfl⟩
 have hb3:Below w2.heap.size w2 w3:=by rw [hw3];exact (Below.refl _ _).alloc (Nat.le_refl _) _
 have hk3:Blk w3 q4 47 #[.int .i64 tr,.int .i64 id,.int .i64 pa,.string se,.string ho,.int .i64 sa,.int .i64 du,.string no]:=by rw [hw3,hq4];exact Blk.alloc_new w2 _ _
 have HB3:=Lib.hid (HB2.out.trans (hb3.mono HB2.out.size))
 have HK23:=Lib.hid (HK2.out.below hb3)
 have HK3:=Lib.hid hk3
 have HNE:=Lib.hid (show q4≠q from by have:=HK2.out.lt;omega)
 have HW3:=Lib.hid hw3
 clear hb3 hk3 hw3
 go_wp2_with fail
 rw [← HW3.out,← hq4]
 clear hq4
 refine (HCK.out w3).mono ?_
 rintro e w4 ⟨rfl,hb4⟩
 have HB4:=Lib.hid (HB3.out.trans (hb4.mono HB3.out.size))
 have hk4:=HK3.out.below hb4
 have hkq:=HK23.out.below hb4
 have k0:=hk4.cell 0
 have k1:=hk4.cell 1
 have k2:=hk4.cell 2
 have k3:=hk4.cell 3
 have k4:=hk4.cell 4
 have k5:=hk4.cell 5
 have k6:=hk4.cell 6
 have k7:=hk4.cell 7
 have c0:=hkq.cell 0
 have c1:=hkq.cell 1
 have c2:=hkq.cell 2
 have c3:=hkq.cell 3
 have c4:=hkq.cell 4
 have c5:=hkq.cell 5
 have c6:=hkq.cell 6
 have c7:=hkq.cell 7
 simp only [List.getElem?_toArray,List.getElem?_cons_zero,List.getElem?_cons_succ] at k0 k1 k2 k3 k4 k5 k6 k7 c0 c1 c2 c3 c4 c5 c6 c7
 have f0:=hkq.free 0
 have f1:=hkq.free 1
 have f2:=hkq.free 2
 have f3:=hkq.free 3
 have f4:=hkq.free 4
 have f5:=hkq.free 5
 have f6:=hkq.free 6
 have f7:=hkq.free 7
 have hk8:=(((((((hkq.set 0 (.int .i64 tr)).set 1 (.int .i64 id)).set 2 (.int .i64 pa)).set 3 (.string se)).set 4 (.string ho)).set 5 (.int .i64 sa)).set 6 (.int .i64 du)).set 7 (.string no)
 have hb8:=(((((((HB4.out.setCell (p:=⟨q,0,none⟩) HQZ.out (.int .i64 tr)).setCell (p:=⟨q,1,none⟩) HQZ.out (.int .i64 id)).setCell (p:=⟨q,2,none⟩) HQZ.out (.int .i64 pa)).setCell (p:=⟨q,3,none⟩) HQZ.out (.string se)).setCell (p:=⟨q,4,none⟩) HQZ.out (.string ho)).setCell (p:=⟨q,5,none⟩) HQZ.out (.int .i64 sa)).setCell (p:=⟨q,6,none⟩) HQZ.out (.int .i64 du)).setCell (p:=⟨q,7,none⟩) HQZ.out (.string no)
 simp only [List.setIfInBounds_toArray,List.set_cons_zero,List.set_cons_succ] at hk8
 have HK8:=Lib.hid hk8
 have HB8:=Lib.hid hb8
 clear hk8 hb8 hk4 hkq hb4
 go_wp2_with fail
 have r0:=HK8.out.cell 0
 have r1:=HK8.out.cell 1
 have r2:=HK8.out.cell 2
 have r3:=HK8.out.cell 3
 have r4:=HK8.out.cell 4
 have r5:=HK8.out.cell 5
 have r6:=HK8.out.cell 6
 have r7:=HK8.out.cell 7
 simp only [List.getElem?_toArray,List.getElem?_cons_zero,List.getElem?_cons_succ] at r0 r1 r2 r3 r4 r5 r6 r7
 refine bodyPost_ret (v:=.tuple #[.agg #[.int .i64 tr,.int .i64 id,.int .i64 pa,.string se,.string ho,.int .i64 sa,.int .i64 du,.string no],.int .i64 0]) (by simp [results,Tryz.results93,go_sem,r0,r1,r2,r3,r4,r5,r6,r7]) rfl ?_
 exact ⟨rfl,HB8.out⟩
end
end Go.Proofs.YtdacanghbepjpaaGreatDoor
