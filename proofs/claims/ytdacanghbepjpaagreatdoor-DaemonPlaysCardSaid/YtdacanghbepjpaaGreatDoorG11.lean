/- An answer's bytes are just those that are written, plainly. No program in sight. Batches and answers as bytes, by the document: walked. An answer's bytes, by the document: walked. -/
import Derived.Test.YtdacanghbepjpaaGreatDoorM1
import Derived.Test.YtdacanghbepjpaaGreatDoorG10
import Derived.Test.YtdacanghbepjpaaGreatDoorG7
namespace Go.Proofs.YtdacanghbepjpaaGreatDoor.Po
set_option linter.unusedSimpArgs false
set_option linter.unusedVariables false
theorem get_drop {s:Str} {q n e:Nat} (h:Var.get (s.drop q) 0=some (n,e)):(s.drop q).take e=Ed.pn n∧e≤(s.drop q).length:=by
 obtain ⟨h1,h2,h3,h4,h5⟩:=Var.get_back h
 rw [List.drop_zero,Nat.sub_zero] at h4
 exact ⟨by rw [h4,Jou.pn_nat],h1⟩
theorem nums_back:∀ (k:Nat) (s:Str) (l:List Nat) (r:Str),nums k s=some (l,r)→s=(l.flatMap fun n:Nat => Ed.pn (n:Int))++r
 | 0,s,l,r,h => by
  unfold nums at h
  injection h with h
  injection h with h1 h2
  subst h1 h2
  rfl
 | k+1,s,l,r,h => by
  unfold nums at h
  split at h
  · cases h
  rename_i n p h1
  split at h
  · cases h
  rename_i l2 r2 h2
  injection h with h
  injection h with h3 h4
  subst h3 h4
  have h5:=nums_back k _ _ _ h2
  have h6:=get_drop (q:=0) (by rw [List.drop_zero];exact h1)
  rw [List.drop_zero] at h6
  rw [List.flatMap_cons,List.append_assoc,← h5,← h6.1,List.take_append_drop]
theorem decAck_back {s:Str} {h f n:Int} (e:decAck s=some (h,f,n)):s=ackS h f (n-f):=by
 unfold decAck at e
 split at e
 case isFalse => cases e
 rename_i h0
 split at e
 case h_2 => cases e
 rename_i a b c hn
 split at e
 case isFalse => cases e
 simp only [Option.some.injEq,Prod.mk.injEq] at e
 obtain ⟨rfl,rfl,rfl⟩:=e
 have h1:=nums_back _ _ _ _ hn
 cases s with
 | nil => cases h0
 | cons x r =>
  simp only [List.getElem?_cons_zero,Option.some.injEq] at h0
  subst h0
  simp only [List.drop_succ_cons,List.drop_zero] at h1
  unfold ackS
  rw [h1]
  simp only [List.flatMap_cons,List.flatMap_nil,List.append_nil]
  rw [show ((b:Int)+(c:Int)-(b:Int))=(c:Int) by omega]
theorem decAck_iff {s:Str} {h f n:Int}:decAck s=some (h,f,n)↔AckOk h f n∧s=ackS h f (n-f) :=
 ⟨fun e => ⟨decAck_ok e,decAck_back e⟩,fun ⟨k,e⟩ => e ▸ decAck_ack k⟩
theorem ack_gets {h f n:Int} (k:AckOk h f n):∃ p1 p2 p3,Var.get (ackS h f (n-f)) 1=some (h.toNat,p1)∧Var.get (ackS h f (n-f)) p1=some (f.toNat,p2)∧Var.get (ackS h f (n-f)) p2=some ((n-f).toNat,p3):=by
 obtain ⟨⟨h1,h2⟩,⟨f1,f2⟩,le,⟨n1,n2⟩⟩:=k
 have e1:=Ed.get_pn h1 (show h<9223372036854775808 by omega) [65] (Ed.pn f++Ed.pn (n-f))
 have e2:=Ed.get_pn f1 (show f<9223372036854775808 by omega) (65::Ed.pn h) (Ed.pn (n-f))
 have e3:=Ed.get_pn (show 0≤n-f by omega) (show n-f<9223372036854775808 by omega) (65::(Ed.pn h++Ed.pn f)) []
 have a1:ackS h f (n-f)=[65]++(Ed.pn h++(Ed.pn f++Ed.pn (n-f))):=rfl
 have a2:ackS h f (n-f)=(65::Ed.pn h)++(Ed.pn f++Ed.pn (n-f)):=rfl
 have a3:ackS h f (n-f)=(65::(Ed.pn h++Ed.pn f))++(Ed.pn (n-f)++[]):=by
  unfold ackS
  simp
 rw [← a1] at e1
 rw [← a2] at e2
 rw [← a3] at e3
 exact ⟨_,_,_,e1,e2,e3⟩
end Go.Proofs.YtdacanghbepjpaaGreatDoor.Po
namespace Go.Proofs.YtdacanghbepjpaaGreatDoor
set_option linter.unusedSimpArgs false
set_option linter.unusedVariables false
set_option maxRecDepth 100000
open Go.RowKit Go.Maps
theorem refNumber_any (h f:Int) (w:World):Calls Tryz.prog 154 #[.int .i64 h,.int .i64 f] w fun e w' => e=.returned (.bool (decide (Po.HostOk h∧Po.RecOk f)))∧w=w':=by
 by_cases h1:h≥0
 case neg =>
  rw [decide_eq_false (fun e => h1 e.1.1)]
  go_enter Tryz.func154,Tryz.ntmps154
  go_wp2_with fail
  go_ret
  exact ⟨rfl,rfl⟩
 case pos =>
 by_cases h2:h<4
 case neg =>
  rw [decide_eq_false (fun e => h2 e.1.2)]
  go_enter Tryz.func154,Tryz.ntmps154
  go_wp2_with fail
  go_ret
  exact ⟨rfl,rfl⟩
 case pos =>
 by_cases h3:f≥0
 case neg =>
  rw [decide_eq_false (fun e => h3 e.2.1)]
  go_enter Tryz.func154,Tryz.ntmps154
  go_wp2_with fail
  go_ret
  exact ⟨rfl,rfl⟩
 case pos =>
 by_cases h4:f≤2147483647
 case neg =>
  rw [decide_eq_false (fun e => h4 e.2.2)]
  go_enter Tryz.func154,Tryz.ntmps154
  go_wp2_with fail
  go_ret
  exact ⟨rfl,rfl⟩
 case pos =>
  rw [decide_eq_true (show Po.HostOk h∧Po.RecOk f from ⟨⟨h1,h2⟩,⟨h3,h4⟩⟩)]
  go_enter Tryz.func154,Tryz.ntmps154
  go_wp2_with fail
  go_ret
  exact ⟨rfl,rfl⟩
theorem ackB_cat (h f n:Int):(⟨#[65]⟩:ByteArray)++pnB h++pnB f++pnB (n-f)=ackB h f n:=by
 unfold ackB Po.ackS pnB
 apply bytes_ext
 simp
set_option maxHeartbeats 4000000 in
theorem refEncAck_any (h f n:Int) (w:World):Calls Tryz.prog 153 #[ackV h f n] w fun e w' => e=.returned (.tuple #[.string (encAck h f n).1,.int .i64 (encAck h f n).2])∧Below w.heap.size w w':=by
 unfold ackV
 obtain ⟨q,hq⟩:∃ q,q=w.heap.size:=⟨_,rfl⟩
 obtain ⟨w1,hw1⟩:∃ w1,w1=w.alloc (.cells #[.int .i64 h,.int .i64 f,.int .i64 n] 51 (0,0)):=⟨_,rfl⟩
 have hb1:Below w.heap.size w w1:=by rw [hw1];exact (Below.refl _ _).alloc (Nat.le_refl _) _
 have hk1:Blk w1 q 51 #[.int .i64 h,.int .i64 f,.int .i64 n]:=by rw [hw1,hq];exact Blk.alloc_new w _ _
 have HB1:=Lib.hid hb1
 have HTT:=Lib.hid (fun (W:World) (hW:Below w1.heap.size w1 W) => show W.cell? ⟨q,0,none⟩=some (.int .i64 h)∧W.cell? ⟨q,1,none⟩=some (.int .i64 f)∧W.cell? ⟨q,2,none⟩=some (.int .i64 n) from by
  have k:=hk1.below hW
  exact ⟨k.cell 0,k.cell 1,k.cell 2⟩)
 obtain ⟨k0,k1,k2⟩:=HTT.out w1 (Below.refl _ _)
 have HW1:=Lib.hid hw1
 have hno:¬ Po.AckOk h f n→encAck h f n=(⟨#[]⟩,2):=fun e => by unfold encAck;rw [if_neg e]
 have hyes:Po.AckOk h f n→encAck h f n=(ackB h f n,0):=fun e => by unfold encAck;rw [if_pos e]
 have HN:=Lib.hid (fun W:World => refNumber_any h f W)
 rw [hq] at k0 k1 k2
 clear hb1 hk1 hw1
 by_cases a1:Po.HostOk h∧Po.RecOk f
 case neg =>
  rw [decide_eq_false a1] at HN
  have HNO:=Lib.hid (hno (fun e => a1 ⟨e.host,e.first⟩))
  clear hno hyes
  clear a1
  go_enter Tryz.func153,Tryz.ntmps153
  go_wp2_with fail
  rw [← HW1.out]
  refine (HN.out w1).mono ?_
  rintro e w2 ⟨rfl,rfl⟩
  go_wp2_with fail
  refine bodyPost_ret (v:=.tuple #[.string ⟨#[]⟩,.int .i64 2]) (by simp [results,Tryz.results153,go_sem]) rfl ?_
  exact ⟨by rw [HNO.out],HB1.out⟩
 case pos =>
 rw [decide_eq_true a1] at HN
 by_cases a3:n<f
 case pos =>
  have HNO:=Lib.hid (hno (fun e => by have:=e.le;omega))
  clear hno hyes
  clear a1
  go_enter Tryz.func153,Tryz.ntmps153
  go_wp2_with fail
  rw [← HW1.out]
  refine (HN.out w1).mono ?_
  rintro e w2 ⟨rfl,rfl⟩
  go_wp2_with fail
  refine bodyPost_ret (v:=.tuple #[.string ⟨#[]⟩,.int .i64 2]) (by simp [results,Tryz.results153,go_sem]) rfl ?_
  exact ⟨by rw [HNO.out],HB1.out⟩
 case neg =>
 by_cases a4:2147483647<n
 case pos =>
  have HNO:=Lib.hid (hno (fun e => by have:=e.next.2;omega))
  clear hno hyes
  clear a1
  go_enter Tryz.func153,Tryz.ntmps153
  go_wp2_with fail
  rw [← HW1.out]
  refine (HN.out w1).mono ?_
  rintro e w2 ⟨rfl,rfl⟩
  go_wp2_with fail
  refine bodyPost_ret (v:=.tuple #[.string ⟨#[]⟩,.int .i64 2]) (by simp [results,Tryz.results153,go_sem]) rfl ?_
  exact ⟨by rw [HNO.out],HB1.out⟩
 case neg =>
  have HYES:=Lib.hid (hyes ⟨a1.1,a1.2,by omega,⟨by have:=a1.2.1;omega,by omega⟩⟩)
  obtain ⟨⟨b1,b2⟩,⟨b3,b4⟩⟩:=a1
  have z1:=pnB_size (n:=h) (by omega)
  have z2:=pnB_size (n:=f) (by omega)
  have z3:=pnB_size (n:=n-f) (by omega)
  have P1:=Lib.hid (fun W:World => refPutP h W (by omega) (by omega))
  have P2:=Lib.hid (fun W:World => refPutP f W (by omega) (by omega))
  have P3:=Lib.hid (fun W:World => refPutP (n-f) W (by omega) (by omega))
  have hcat:=ackB_cat h f n
  obtain ⟨s1,e1⟩:∃ s,s=pnB h:=⟨_,rfl⟩
  obtain ⟨s2,e2⟩:∃ s,s=pnB f:=⟨_,rfl⟩
  obtain ⟨s3,e3⟩:∃ s,s=pnB (n-f):=⟨_,rfl⟩
  rw [← e1] at P1 z1 hcat
  rw [← e2] at P2 z2 hcat
  rw [← e3] at P3 z3 hcat
  have HCAT:=Lib.hid hcat
  have hws:IntKind.i64.wrap (n-f)=n-f:=by rw [IntKind.wrap_i64];omega
  have hs65:(⟨#[65]⟩:ByteArray).size=1:=rfl
  have sz1:¬ 9223372036854775807<1+s1.size:=by omega
  have sz2:¬ 9223372036854775807<1+s1.size+s2.size:=by omega
  have sz3:¬ 9223372036854775807<1+s1.size+s2.size+s3.size:=by omega
  clear hno hyes e1 e2 e3 hcat
  go_enter Tryz.func153,Tryz.ntmps153
  go_wp2_with fail
  rw [← HW1.out]
  refine (HN.out w1).mono ?_
  rintro e w2 ⟨rfl,rfl⟩
  clear k0 k1 k2 HN
  rw [← hq]
  clear hq
  obtain ⟨k0,k1,k2⟩:=HTT.out w1 (Below.refl _ _)
  obtain ⟨x1,hx1⟩:∃ x,x=w1.drew:=⟨_,rfl⟩
  have HX1:=Lib.hid (show Below w1.heap.size w1 x1 by rw [hx1];exact (Below.refl _ _).drew)
  have hT:=HTT.out x1 HX1.out
  have hS:True:=trivial
  go_wp2_with fail
  refine wp_region_two (T:=fun W => W.cell? ⟨q,0,none⟩=some (.int .i64 h)∧W.cell? ⟨q,1,none⟩=some (.int .i64 f)∧W.cell? ⟨q,2,none⟩=some (.int .i64 n)) (S:=fun _ => True) (n:=99) (by kernel_rfl) ?_
  rw [← hx1]
  clear hx1 k0 k1 k2
  refine tk 0 22 hT hS ?_
  refine tk 1 23 hT hS ?_
  try simp only [xq]
  refine tk 4 26 hT hS ?_
  refine tk 5 27 hT hS ?_
  try simp only [xq]
  refine tk 8 30 hT hS ?_
  refine tk 9 31 hT hS ?_
  try simp only [xq]
  refine tk 10 32 hT hS ?_
  refine tk 11 33 hT hS ?_
  try simp only [xq]
  refine tk 12 34 hT hS ?_
  try simp only [xq]
  refine two_one 2 rfl (by kernel_rfl) ?_
  intro K0 hK0
  go_simp
  refine (P1.out _).mono ?_
  rintro e y1 ⟨rfl,hb⟩
  have Hy1:=Lib.hid (HX1.out.trans (hb.mono HX1.out.size))
  have hT3:=HTT.out y1 Hy1.out
  refine hK0.out _ _ hT3 (fun _ _ => hS) ?_
  clear hK0 K0 hT hb
  have hT:=hT3
  clear hT3
  try simp only [xq]
  refine tk 3 25 hT hS ?_
  try simp only [xq]
  refine two_one 6 rfl (by kernel_rfl) ?_
  intro K0 hK0
  go_simp
  refine (P2.out _).mono ?_
  rintro e y2 ⟨rfl,hb⟩
  have Hy2:=Lib.hid (Hy1.out.trans (hb.mono Hy1.out.size))
  have hT3:=HTT.out y2 Hy2.out
  refine hK0.out _ _ hT3 (fun _ _ => hS) ?_
  clear hK0 K0 hT hb
  have hT:=hT3
  clear hT3
  try simp only [xq]
  refine tk 7 29 hT hS ?_
  try simp only [xq]
  refine two_one 13 rfl (by kernel_rfl) ?_
  intro K0 hK0
  go_simp
  refine (P3.out _).mono ?_
  rintro e y3 ⟨rfl,hb⟩
  have Hy3:=Lib.hid (Hy2.out.trans (hb.mono Hy2.out.size))
  have hT3:=HTT.out y3 Hy3.out
  refine hK0.out _ _ hT3 (fun _ _ => hS) ?_
  clear hK0 K0 hT hb
  have hT:=hT3
  clear hT3
  try simp only [xq]
  refine tk 14 36 hT hS ?_
  refine tk 15 2 hT hS ?_
  try simp only [xq]
  refine tk 16 3 hT hS ?_
  try simp only [xq]
  refine two_done (by kernel_rfl) ?_ _
  clear hT P1 P2 P3
  go_wp2_with fail
  refine bodyPost_ret (v:=.tuple #[.string ((⟨#[65]⟩:ByteArray)++s1++s2++s3),.int .i64 0]) (by simp [results,Tryz.results153,go_sem]) rfl ?_
  exact ⟨by rw [HYES.out,HCAT.out],HB1.out.trans (Hy3.out.mono HB1.out.size)⟩
theorem batch_cat (h f n:Int):(⟨#[66]⟩:ByteArray)++pnB h++pnB f++pnB n=upB h f n []:=by
 unfold upB pnB
 apply bytes_ext
 simp [Po.bodyT]
set_option maxHeartbeats 8000000 in
theorem refEncBatch_ok (h f:Int) (l:List Sp.Span) (v:Value) (w:World) (hv:RdSp w v l) (hh:Po.HostOk h) (hf:Po.RecOk f) (hfl:Po.RecOk (f+l.length)) (hl:1≤l.length∧l.length≤8) (hm:∀ y∈l,Sp.May y) :
  Calls Tryz.prog 98 #[.agg #[.int .i64 h,.int .i64 f,v]] w fun e w' => e=.returned (.tuple #[.string (batchB h f l),.int .i64 0])∧Below w.heap.size w w':=by
 obtain ⟨x,c,rfl,hc,hx⟩:=rdSp_cells hv
 obtain ⟨n,hn⟩:∃ n,n=l.length:=⟨_,rfl⟩
 have hbb:batchB h f l=upB h f n l:=by rw [hn];rfl
 have HX:=Lib.hid hx
 rw [← hn] at hc hfl hl ⊢
 rw [hbb]
 obtain ⟨q,hq⟩:∃ q,q=w.heap.size:=⟨_,rfl⟩
 obtain ⟨w1,hw1⟩:∃ w1,w1=w.alloc (.cells #[.int .i64 h,.int .i64 f,.slice x n c] 63 (0,0)):=⟨_,rfl⟩
 have hb1:Below w.heap.size w w1:=by rw [hw1];exact (Below.refl _ _).alloc (Nat.le_refl _) _
 have hk1:Blk w1 q 63 #[.int .i64 h,.int .i64 f,.slice x n c]:=by rw [hw1,hq];exact Blk.alloc_new w _ _
 have HB1:=Lib.hid hb1
 have HTT:=Lib.hid (fun (W:World) (hW:Below w1.heap.size w1 W) => show W.cell? ⟨q,0,none⟩=some (.int .i64 h)∧W.cell? ⟨q,1,none⟩=some (.int .i64 f)∧W.cell? ⟨q,2,none⟩=some (.slice x n c) from by
  have k:=hk1.below hW
  exact ⟨k.cell 0,k.cell 1,k.cell 2⟩)
 obtain ⟨k0,k1,k2⟩:=HTT.out w1 (Below.refl _ _)
 rw [hq] at k0 k1 k2
 have HW1:=Lib.hid hw1
 have HN1:=Lib.hid (fun W:World => refNumber_any h f W)
 have HN2:=Lib.hid (fun W:World => refNumber_any h (f+n) W)
 rw [decide_eq_true (And.intro hh hf)] at HN1
 rw [decide_eq_true (And.intro hh hfl)] at HN2
 have HM:=Lib.hid hm
 have HNL:=Lib.hid hn
 have HSZ:=Lib.hid (fun (k:Nat) => upB_size (h:=h) (f:=f) (n:=n) (l:=l.take k) (by have:=hh.2;omega) (by have:=hf.2;omega) (by omega) fun y hy => hm y (List.mem_of_mem_take hy))
 have hn8:¬ (8:Int)<n:=by omega
 have hn1:¬ (n:Int)<1:=by omega
 have hn9:n≤8:=hl.2
 have hf1:=hf.1
 have hf2:=hf.2
 have hwf:IntKind.i64.wrap (f+n)=f+n:=by rw [IntKind.wrap_i64];omega
 have z1:=pnB_size (n:=h) (by have:=hh.2;omega)
 have z2:=pnB_size (n:=f) (by omega)
 have z3:=pnB_size (n:=(n:Int)) (by omega)
 have P1:=Lib.hid (fun W:World => refPutP h W hh.1 (by have:=hh.2;omega))
 have P2:=Lib.hid (fun W:World => refPutP f W (by omega) (by omega))
 have P3:=Lib.hid (fun W:World => refPutP (n:Int) W (by omega) (by omega))
 have hcat:=batch_cat h f n
 obtain ⟨s1,e1⟩:∃ s,s=pnB h:=⟨_,rfl⟩
 obtain ⟨s2,e2⟩:∃ s,s=pnB f:=⟨_,rfl⟩
 obtain ⟨s3,e3⟩:∃ s,s=pnB (n:Int):=⟨_,rfl⟩
 rw [← e1] at P1 z1 hcat
 rw [← e2] at P2 z2 hcat
 rw [← e3] at P3 z3 hcat
 have HCAT:=Lib.hid hcat
 have hs66:(⟨#[66]⟩:ByteArray).size=1:=rfl
 have sz1:¬ 9223372036854775807<1+s1.size:=by omega
 have sz2:¬ 9223372036854775807<1+s1.size+s2.size:=by omega
 have sz3:¬ 9223372036854775807<1+s1.size+s2.size+s3.size:=by omega
 clear hb1 hk1 hw1 hx hbb hm hh hf hfl hn hv e1 e2 e3 hcat
 go_enter Tryz.func98,Tryz.ntmps98
 go_wp2_with fail
 rw [← HW1.out]
 refine (HN1.out w1).mono ?_
 rintro e w2 ⟨rfl,rfl⟩
 go_wp2_with fail
 refine (HN2.out w1).mono ?_
 rintro e w2 ⟨rfl,rfl⟩
 clear k0 k1 k2 HN1 HN2
 rw [← hq]
 clear hq
 obtain ⟨x1,hx1⟩:∃ x,x=w1.drew:=⟨_,rfl⟩
 have HX1:=Lib.hid (show Below w1.heap.size w1 x1 by rw [hx1];exact (Below.refl _ _).drew)
 have hT:=HTT.out x1 HX1.out
 have hS:True:=trivial
 go_wp2_with fail
 refine wp_region_two (T:=fun W => W.cell? ⟨q,0,none⟩=some (.int .i64 h)∧W.cell? ⟨q,1,none⟩=some (.int .i64 f)∧W.cell? ⟨q,2,none⟩=some (.slice x n c)) (S:=fun _ => True) (n:=99) (by kernel_rfl) ?_
 rw [← hx1]
 clear hx1
 refine tk 0 38 hT hS ?_
 refine tk 1 39 hT hS ?_
 try simp only [xq]
 refine tk 4 42 hT hS ?_
 refine tk 5 43 hT hS ?_
 try simp only [xq]
 refine tk 8 46 hT hS ?_
 refine tk 9 47 hT hS ?_
 try simp only [xq]
 refine tk 10 48 hT hS ?_
 try simp only [xq]
 refine two_one 2 rfl (by kernel_rfl) ?_
 intro K0 hK0
 go_simp
 refine (P1.out _).mono ?_
 rintro e y1 ⟨rfl,hb⟩
 have Hy1:=Lib.hid (HX1.out.trans (hb.mono HX1.out.size))
 have hT3:=HTT.out y1 Hy1.out
 refine hK0.out _ _ hT3 (fun _ _ => hS) ?_
 clear hK0 K0 hT hb
 have hT:=hT3
 clear hT3
 try simp only [xq]
 refine tk 3 41 hT hS ?_
 try simp only [xq]
 refine two_one 6 rfl (by kernel_rfl) ?_
 intro K0 hK0
 go_simp
 refine (P2.out _).mono ?_
 rintro e y2 ⟨rfl,hb⟩
 have Hy2:=Lib.hid (Hy1.out.trans (hb.mono Hy1.out.size))
 have hT3:=HTT.out y2 Hy2.out
 refine hK0.out _ _ hT3 (fun _ _ => hS) ?_
 clear hK0 K0 hT hb
 have hT:=hT3
 clear hT3
 try simp only [xq]
 refine tk 7 45 hT hS ?_
 try simp only [xq]
 refine two_one 11 rfl (by kernel_rfl) ?_
 intro K0 hK0
 go_simp
 refine (P3.out _).mono ?_
 rintro e y3 ⟨rfl,hb⟩
 have Hy3:=Lib.hid (Hy2.out.trans (hb.mono Hy2.out.size))
 have hT3:=HTT.out y3 Hy3.out
 refine hK0.out _ _ hT3 (fun _ _ => hS) ?_
 clear hK0 K0 hT hb
 have hT:=hT3
 clear hT3
 try simp only [xq]
 refine tk 12 50 hT hS ?_
 refine tk 13 4 hT hS ?_
 try simp only [xq]
 refine two_done (by kernel_rfl) ?_ _
 clear hT P1 P2 P3
 rw [HCAT.out]
 go_wp2_with fail
 clear z1 z2 z3
 go_loopw [4,5,6,7] (fun v4 v5 _ _ wr => ∃ i:Nat,v5=.int .i64 i∧i≤n∧v4=.string (upB h f n (l.take i))∧Below w1.heap.size w1 wr) (fun _ v5 _ _ _ => n-(intOf v5).toNat)
 case atStart => exact ⟨0,rfl,by omega,rfl,Hy3.out⟩
 case round =>
  obtain ⟨i,rfl,hi,rfl,hbw⟩:=hrel
  have HB:=Lib.hid hbw
  obtain ⟨_,_,k2⟩:=HTT.out wr hbw
  clear hbw
  have hz:=HSZ.out i
  by_cases hlt:i<n
  · have hlt2:(i:Int)<n:=by omega
    have hil:i<l.length:=by rw [← HNL.out];exact hlt
    obtain ⟨b1,o1,rfl,l1,p0,p1,p2,p3,p4,p5,p6,p7⟩:=HX.out i hil
    have HBW:=Lib.hid (HB1.out.trans (HB.out.mono HB1.out.size))
    have g0:=(HBW.out.cell (p:=⟨b1,o1+i*8,none⟩) l1).trans p0
    have g1:=(HBW.out.cell (p:=⟨b1,o1+i*8+1,none⟩) l1).trans p1
    have g2:=(HBW.out.cell (p:=⟨b1,o1+i*8+2,none⟩) l1).trans p2
    have g3:=(HBW.out.cell (p:=⟨b1,o1+i*8+3,none⟩) l1).trans p3
    have g4:=(HBW.out.cell (p:=⟨b1,o1+i*8+4,none⟩) l1).trans p4
    have g5:=(HBW.out.cell (p:=⟨b1,o1+i*8+5,none⟩) l1).trans p5
    have g6:=(HBW.out.cell (p:=⟨b1,o1+i*8+6,none⟩) l1).trans p6
    have g7:=(HBW.out.cell (p:=⟨b1,o1+i*8+7,none⟩) l1).trans p7
    have hmx:=HM.out l[i] (List.getElem_mem hil)
    have hst:l.take (i+1)=l.take i++[l[i]]:=by rw [List.take_succ_eq_append_getElem hil]
    obtain ⟨y,hy⟩:∃ y,y=l[i]:=⟨_,rfl⟩
    rw [← hy] at g0 g1 g2 g3 g4 g5 g6 g7 hmx hst
    have hel:=Sp.enc_len hmx
    have HE:=Lib.hid (fun W:World => refEncodeS_any y (by have:=hmx.service.2.1;unfold maxLen;omega) (by have:=hmx.host.2.1;unfold maxLen;omega) (by have:=hmx.note;unfold maxLen;omega) W)
    have esq:spQ y=(Sp.enc y,0):=by unfold spQ;exact if_pos hmx
    rw [esq] at HE
    simp only at HE
    obtain ⟨E,hE⟩:∃ E:ByteArray,E=⟨(Sp.enc y).toArray⟩:=⟨_,rfl⟩
    rw [← hE] at HE
    have hEl:E.data.toList=Sp.enc y:=by rw [hE]
    have hEz:E.size≤112:=by have:=congrArg List.length hEl;rw [Sp.size_toList] at this;omega
    have HPT:=Lib.hid (fun W:World => refPutText E W (by omega))
    have hsn:=upB_snoc h f n (l.take i) y E hEl
    rw [← hst] at hsn
    have hsz2:=HSZ.out (i+1)
    have hlen1:(l.take i).length≤8:=by rw [List.length_take];omega
    have hlen2:(l.take (i+1)).length≤8:=by rw [List.length_take];omega
    obtain ⟨S,hS⟩:∃ S,S=upB h f n (l.take i):=⟨_,rfl⟩
    rw [← hS] at hz hsn ⊢
    obtain ⟨T,hT⟩:∃ T,T=encTB E:=⟨_,rfl⟩
    rw [← hT] at HPT hsn
    have hts:S.size+T.size≤100000:=by
     have:=congrArg ByteArray.size hsn
     rw [ByteArray.size_append] at this
     omega
    have HSN:=Lib.hid hsn
    obtain ⟨tr,id,pa,se,ho,sa,du,no⟩:=y
    unfold spV at HE
    simp only at HE g0 g1 g2 g3 g4 g5 g6 g7
    clear hy hmx hst hel esq hE hEl hsn hsz2 hlen1 hlen2 hS hT hEz p0 p1 p2 p3 p4 p5 p6 p7 hz
    go_wp2_with fail
    refine (HE.out wr).mono ?_
    rintro e w5 ⟨rfl,hb5⟩
    have HB5:=Lib.hid (HB.out.trans (hb5.mono HB.out.size))
    clear hb5 HE g0 g1 g2 g3 g4 g5 g6 g7
    go_wp2_with fail
    refine (HPT.out w5).mono ?_
    rintro e w6 ⟨rfl,hb6⟩
    have HB6:=Lib.hid (HB5.out.trans (hb6.mono HB5.out.size))
    clear hb6 HPT
    go_wp2_with fail
    go_roundw
    case rel => exact ⟨i+1,by go_num,by omega,by rw [HSN.out],HB6.out⟩
    case measure => simp [intOf];omega
  · obtain rfl:i=n:=by omega
    have hall:l.take i=l:=List.take_of_length_le (by rw [← HNL.out];exact Nat.le_refl _)
    rw [hall]
    go_wp2_with fail
    refine bodyPost_ret (v:=.tuple #[.string (upB h f i l),.int .i64 0]) (by simp [results,Tryz.results98,go_sem]) rfl ?_
    exact ⟨rfl,HB1.out.trans (HB.out.mono HB1.out.size)⟩
end Go.Proofs.YtdacanghbepjpaaGreatDoor
namespace Go.Proofs.YtdacanghbepjpaaGreatDoor
set_option linter.unusedSimpArgs false
set_option linter.unusedVariables false
set_option maxRecDepth 100000
open Go.RowKit Go.Maps
structure DI (w W:World) (q0 q1:Nat) (x y z:Int):Prop where
 below:Below w.heap.size w W
 res:Blk W q0 51 #[.int .i64 0,.int .i64 0,.int .i64 0]
 blk:Blk W q1 51 #[.int .i64 x,.int .i64 y,.int .i64 z]
section
variable {w W W':World} {q0 q1:Nat} {x y z:Int}
theorem DI.next (h:DI w W q0 q1 x y z) (b:Below W.heap.size W W'):DI w W' q0 q1 x y z:=⟨h.below.trans (b.mono h.below.size),h.res.below b,h.blk.below b⟩
theorem DI.put0 (h:DI w W q0 q1 x y z) (hq:w.heap.size≤q1) (hne:q0≠q1) (v:Int):DI w (W.setCell ⟨q1,0,none⟩ (.int .i64 v)) q0 q1 v y z:=by
 refine ⟨h.below.setCell (p:=⟨q1,0,none⟩) hq _,h.res.set_ot _ _ _ hne,?_⟩
 have:=h.blk.set 0 (.int .i64 v)
 simpa using this
theorem DI.put1 (h:DI w W q0 q1 x y z) (hq:w.heap.size≤q1) (hne:q0≠q1) (v:Int):DI w (W.setCell ⟨q1,1,none⟩ (.int .i64 v)) q0 q1 x v z:=by
 refine ⟨h.below.setCell (p:=⟨q1,1,none⟩) hq _,h.res.set_ot _ _ _ hne,?_⟩
 have:=h.blk.set 1 (.int .i64 v)
 simpa using this
theorem DI.put2 (h:DI w W q0 q1 x y z) (hq:w.heap.size≤q1) (hne:q0≠q1) (v:Int):DI w (W.setCell ⟨q1,2,none⟩ (.int .i64 v)) q0 q1 x y v:=by
 refine ⟨h.below.setCell (p:=⟨q1,2,none⟩) hq _,h.res.set_ot _ _ _ hne,?_⟩
 have:=h.blk.set 2 (.int .i64 v)
 simpa using this
theorem DI.cells (h:DI w W q0 q1 x y z):(W.cell? ⟨q1,0,none⟩=some (.int .i64 x)∧W.cell? ⟨q1,1,none⟩=some (.int .i64 y)∧W.cell? ⟨q1,2,none⟩=some (.int .i64 z))∧W.frozen? ⟨q1,0,none⟩=false∧W.frozen? ⟨q1,1,none⟩=false∧W.frozen? ⟨q1,2,none⟩=false∧W.frozen? ⟨q0,0,none⟩=false∧W.frozen? ⟨q0,1,none⟩=false∧W.frozen? ⟨q0,2,none⟩=false∧W.cell? ⟨q0,0,none⟩=some (.int .i64 0)∧W.cell? ⟨q0,1,none⟩=some (.int .i64 0)∧W.cell? ⟨q0,2,none⟩=some (.int .i64 0) :=
 ⟨⟨h.blk.cell 0,h.blk.cell 1,h.blk.cell 2⟩,h.blk.free 0,h.blk.free 1,h.blk.free 2,h.res.free 0,h.res.free 1,h.res.free 2,h.res.cell 0,h.res.cell 1,h.res.cell 2⟩
end
set_option maxHeartbeats 8000000 in
theorem refDecAck_any (s:ByteArray) (hs:s.size≤maxLen) (w:World):Calls Tryz.prog 97 #[.string s] w fun e w' => e=.returned (decAckV s.data.toList)∧Below w.heap.size w w':=by
 obtain ⟨q0,hq0⟩:∃ q,q=w.heap.size:=⟨_,rfl⟩
 obtain ⟨w1,hw1⟩:∃ w1,w1=w.alloc (.cells #[.int .i64 0,.int .i64 0,.int .i64 0] 51 (0,0)):=⟨_,rfl⟩
 have hb1:Below w.heap.size w w1:=by rw [hw1];exact (Below.refl _ _).alloc (Nat.le_refl _) _
 have hk1:Blk w1 q0 51 #[.int .i64 0,.int .i64 0,.int .i64 0]:=by rw [hw1,hq0];exact Blk.alloc_new w _ _
 obtain ⟨q1,hq1⟩:∃ q,q=w1.heap.size:=⟨_,rfl⟩
 obtain ⟨w2,hw2⟩:∃ w2,w2=w1.alloc (.cells #[.int .i64 0,.int .i64 0,.int .i64 0] 51 (0,0)):=⟨_,rfl⟩
 have hb2:Below w1.heap.size w1 w2:=by rw [hw2];exact (Below.refl _ _).alloc (Nat.le_refl _) _
 have hk2:Blk w2 q1 51 #[.int .i64 0,.int .i64 0,.int .i64 0]:=by rw [hw2,hq1];exact Blk.alloc_new w1 _ _
 have hl1:=hk1.lt
 have hz1:=hb1.size
 have HI:=Lib.hid (show DI w w2 q0 q1 0 0 0 from ⟨hb1.trans (hb2.mono hb1.size),hk1.below hb2,hk2⟩)
 have HQ:=Lib.hid (show w.heap.size≤q0∧w.heap.size≤q1∧q0≠q1 by omega)
 have HW1:=Lib.hid hw1
 have HW2:=Lib.hid hw2
 have HQ0:=Lib.hid hq0
 have HQ1:=Lib.hid hq1
 obtain ⟨S,hS⟩:∃ S,S=s.data.toList:=⟨_,rfl⟩
 rw [← hS]
 have HS:=Lib.hid hS
 have hsm:s.size≤9223372036854775807:=by unfold maxLen at hs;omega
 have hsl:S.length=s.size:=by rw [hS];simp
 have HG:=Lib.hid (fun (p:Nat) (hp:p≤9223372036854775807) (W:World) => refGet_any s p W hs hp)
 rw [← hS] at HG
 have HEA:=Lib.hid (fun (a b c:Int) (W:World) => refEncAck_any a b c W)
 unfold ackV at HEA
 have hz9:S=[]∨0<s.size:=by
  cases S with
  | nil => exact .inl rfl
  | cons c r => right;rw [← hsl];simp
 by_cases h0:S[0]?=some 65
 case neg =>
  have HNO:=Lib.hid (show Po.decAck S=none by unfold Po.decAck;rw [if_neg h0])
  by_cases hz:s.size=0
  · have hz1:decide ((0:Int)<s.size)=false:=decide_eq_false (by omega)
    have hz2:decide (0<s.size)=false:=decide_eq_false (by omega)
    clear hb1 hk1 hw1 hb2 hk2 hw2 hl1 hq0 hq1 hS h0 hz hz9 HG HEA
    go_enter Tryz.func97,Tryz.ntmps97
    refine wp_seq_k fun L0 hL0 => ?_
    have HL0:=Lib.hid hL0
    clear hL0
    go_wp2_with fail
    rw [← HW1.out,← HQ0.out]
    refine HL0.out _ _ ?_
    clear HL0
    refine wp_seq_k fun L0 hL0 => ?_
    have HL0:=Lib.hid hL0
    clear hL0
    go_wp2_with fail
    rw [← HW2.out,← HQ1.out]
    refine HL0.out _ _ ?_
    clear HL0
    obtain ⟨⟨c0,c1,c2⟩,f0,f1,f2,g0,g1,g2,x0,x1,x2⟩:=HI.out.cells
    have hk8:=((HI.out.res.set 0 (.int .i64 0)).set 1 (.int .i64 0)).set 2 (.int .i64 0)
    have hb8:=((HI.out.below.setCell (p:=⟨q0,0,none⟩) HQ.out.1 (.int .i64 0)).setCell (p:=⟨q0,1,none⟩) HQ.out.1 (.int .i64 0)).setCell (p:=⟨q0,2,none⟩) HQ.out.1 (.int .i64 0)
    simp only [List.setIfInBounds_toArray,List.set_cons_zero,List.set_cons_succ] at hk8
    have HK8:=Lib.hid hk8
    have HB8:=Lib.hid hb8
    clear hk8 hb8
    go_wp2_with fail
    have r0:=HK8.out.cell 0
    have r1:=HK8.out.cell 1
    have r2:=HK8.out.cell 2
    simp only [List.getElem?_toArray,List.getElem?_cons_zero,List.getElem?_cons_succ] at r0 r1 r2
    refine bodyPost_ret (v:=.tuple #[.agg #[.int .i64 0,.int .i64 0,.int .i64 0],.int .i64 30]) (by simp [results,Tryz.results97,go_sem,r0,r1,r2]) rfl ?_
    exact ⟨by unfold decAckV;rw [HNO.out];rfl,HB8.out⟩
  · have hz3:0<s.size:=by omega
    have hz2:decide ((0:Int)<s.size)=true:=decide_eq_true (by omega)
    have hz4:decide (0<s.size)=true:=decide_eq_true hz3
    obtain ⟨c,hc⟩:∃ c,s[0]'hz3=c:=⟨_,rfl⟩
    have q1:((c.toNat:Int) == 65)=false:=by
     rw [beq_eq_false_iff_ne]
     intro e
     refine h0 ?_
     rw [hS,List.getElem?_eq_getElem (by simpa using hz3)]
     have e2:c=65:=UInt8.toNat_inj.1 (by show c.toNat=65;omega)
     rw [← e2,← hc]
     rfl
    clear hb1 hk1 hw1 hb2 hk2 hw2 hl1 hq0 hq1 hS h0 hz hz9 HG HEA
    go_enter Tryz.func97,Tryz.ntmps97
    refine wp_seq_k fun L0 hL0 => ?_
    have HL0:=Lib.hid hL0
    clear hL0
    go_wp2_with fail
    rw [← HW1.out,← HQ0.out]
    refine HL0.out _ _ ?_
    clear HL0
    refine wp_seq_k fun L0 hL0 => ?_
    have HL0:=Lib.hid hL0
    clear hL0
    go_wp2_with fail
    rw [← HW2.out,← HQ1.out]
    refine HL0.out _ _ ?_
    clear HL0
    obtain ⟨⟨c0,c1,c2⟩,f0,f1,f2,g0,g1,g2,x0,x1,x2⟩:=HI.out.cells
    have hk8:=((HI.out.res.set 0 (.int .i64 0)).set 1 (.int .i64 0)).set 2 (.int .i64 0)
    have hb8:=((HI.out.below.setCell (p:=⟨q0,0,none⟩) HQ.out.1 (.int .i64 0)).setCell (p:=⟨q0,1,none⟩) HQ.out.1 (.int .i64 0)).setCell (p:=⟨q0,2,none⟩) HQ.out.1 (.int .i64 0)
    simp only [List.setIfInBounds_toArray,List.set_cons_zero,List.set_cons_succ] at hk8
    have HK8:=Lib.hid hk8
    have HB8:=Lib.hid hb8
    clear hk8 hb8
    go_wp2_with fail
    have r0:=HK8.out.cell 0
    have r1:=HK8.out.cell 1
    have r2:=HK8.out.cell 2
    simp only [List.getElem?_toArray,List.getElem?_cons_zero,List.getElem?_cons_succ] at r0 r1 r2
    refine bodyPost_ret (v:=.tuple #[.agg #[.int .i64 0,.int .i64 0,.int .i64 0],.int .i64 30]) (by simp [results,Tryz.results97,go_sem,r0,r1,r2]) rfl ?_
    exact ⟨by unfold decAckV;rw [HNO.out];rfl,HB8.out⟩
 case pos =>
 have hz3:0<s.size:=by
  rcases hz9 with e | e
  · rw [e] at h0;cases h0
  · exact e
 have hz2:decide ((0:Int)<s.size)=true:=decide_eq_true (by omega)
 have hz4:decide (0<s.size)=true:=decide_eq_true hz3
 obtain ⟨c0,hc0⟩:∃ c,s[0]'hz3=c:=⟨_,rfl⟩
 have q1:((c0.toNat:Int) == 65)=true:=by
  have e:S[0]?=some c0:=by
   rw [hS,List.getElem?_eq_getElem (by simpa using hz3),← hc0]
   rfl
  rw [e] at h0
  injection h0 with h0
  rw [h0]
  rfl
 have hg1:=HG.out 1 (by omega)
 clear hb1 hk1 hw1 hb2 hk2 hw2 hl1 hq0 hq1 hS h0 hz9
 cases hd1:Var.get S 1 with
 | none =>
  rw [hd1] at hg1
  have HG1:=Lib.hid hg1
  unfold gotE at HG1
  simp only at HG1
  have HNO:=Lib.hid (show Po.decAck S=none from by
   cases hd:Po.decAck S with
   | none => rfl
   | some v =>
    obtain ⟨ho,fi,nx⟩:=v
    obtain ⟨kk,ee⟩:=Po.decAck_iff.1 hd
    obtain ⟨r1,r2,r3,e1,e2,e3⟩:=Po.ack_gets kk
    rw [← ee] at e1 e2 e3
    (rw [hd1] at e1;cases e1))
  clear hg1 hd1 HG HEA
  go_enter Tryz.func97,Tryz.ntmps97
  refine wp_seq_k fun L0 hL0 => ?_
  have HL0:=Lib.hid hL0
  clear hL0
  go_wp2_with fail
  rw [← HW1.out,← HQ0.out]
  refine HL0.out _ _ ?_
  clear HL0
  refine wp_seq_k fun L0 hL0 => ?_
  have HL0:=Lib.hid hL0
  clear hL0
  go_wp2_with fail
  rw [← HW2.out,← HQ1.out]
  refine HL0.out _ _ ?_
  clear HL0
  go_wp2_with fail
  refine (HG1.out _).mono ?_
  rintro e w3 ⟨rfl,hb⟩
  have Hw3:=Lib.hid (HI.out.next hb)
  clear hb
  obtain ⟨⟨Ac0,Ac1,Ac2⟩,Af0,Af1,Af2,Ag0,Ag1,Ag2,Ax0,Ax1,Ax2⟩:=Hw3.out.cells
  have HS3:=Lib.hid (Hw3.out.put0 HQ.out.2.1 HQ.out.2.2 0)
  obtain ⟨⟨c0,c1,c2⟩,f0,f1,f2,g0,g1,g2,x0,x1,x2⟩:=HS3.out.cells
  have hk8:=((HS3.out.res.set 0 (.int .i64 0)).set 1 (.int .i64 0)).set 2 (.int .i64 0)
  have hb8:=((HS3.out.below.setCell (p:=⟨q0,0,none⟩) HQ.out.1 (.int .i64 0)).setCell (p:=⟨q0,1,none⟩) HQ.out.1 (.int .i64 0)).setCell (p:=⟨q0,2,none⟩) HQ.out.1 (.int .i64 0)
  simp only [List.setIfInBounds_toArray,List.set_cons_zero,List.set_cons_succ] at hk8
  have HK8:=Lib.hid hk8
  have HB8:=Lib.hid hb8
  clear hk8 hb8
  go_wp2_with fail
  have r0:=HK8.out.cell 0
  have r1:=HK8.out.cell 1
  have r2:=HK8.out.cell 2
  simp only [List.getElem?_toArray,List.getElem?_cons_zero,List.getElem?_cons_succ] at r0 r1 r2
  refine bodyPost_ret (v:=.tuple #[.agg #[.int .i64 0,.int .i64 0,.int .i64 0],.int .i64 30]) (by simp [results,Tryz.results97,go_sem,r0,r1,r2]) rfl ?_
  exact ⟨by unfold decAckV;rw [HNO.out];rfl,HB8.out⟩
 | some v1 =>
 obtain ⟨a,p1⟩:=v1
 rw [hd1] at hg1
 have HG1:=Lib.hid hg1
 unfold gotE at HG1
 simp only at HG1
 have k1:=Var.get_back hd1
 have hp128:(128:Nat) ^ 9=9223372036854775808:=by decide
 rw [hp128] at k1
 have hg2:=HG.out p1 (by omega)
 cases hd2:Var.get S p1 with
 | none =>
  rw [hd2] at hg2
  have HG2:=Lib.hid hg2
  unfold gotE at HG2
  simp only at HG2
  have HNO:=Lib.hid (show Po.decAck S=none from by
   cases hd:Po.decAck S with
   | none => rfl
   | some v =>
    obtain ⟨ho,fi,nx⟩:=v
    obtain ⟨kk,ee⟩:=Po.decAck_iff.1 hd
    obtain ⟨r1,r2,r3,e1,e2,e3⟩:=Po.ack_gets kk
    rw [← ee] at e1 e2 e3
    (rw [hd1] at e1;injection e1 with e1;injection e1 with e4 e5;rw [← e5,hd2] at e2;cases e2))
  clear hg1 hd1 hg2 hd2 k1 hp128 HG HEA
  go_enter Tryz.func97,Tryz.ntmps97
  refine wp_seq_k fun L0 hL0 => ?_
  have HL0:=Lib.hid hL0
  clear hL0
  go_wp2_with fail
  rw [← HW1.out,← HQ0.out]
  refine HL0.out _ _ ?_
  clear HL0
  refine wp_seq_k fun L0 hL0 => ?_
  have HL0:=Lib.hid hL0
  clear hL0
  go_wp2_with fail
  rw [← HW2.out,← HQ1.out]
  refine HL0.out _ _ ?_
  clear HL0
  go_wp2_with fail
  refine (HG1.out _).mono ?_
  rintro e w3 ⟨rfl,hb⟩
  have Hw3:=Lib.hid (HI.out.next hb)
  clear hb
  obtain ⟨⟨Ac0,Ac1,Ac2⟩,Af0,Af1,Af2,Ag0,Ag1,Ag2,Ax0,Ax1,Ax2⟩:=Hw3.out.cells
  have HS3:=Lib.hid (Hw3.out.put0 HQ.out.2.1 HQ.out.2.2 (a:Int))
  obtain ⟨⟨Bc0,Bc1,Bc2⟩,Bf0,Bf1,Bf2,Bg0,Bg1,Bg2,Bx0,Bx1,Bx2⟩:=HS3.out.cells
  go_wp2_with fail
  refine (HG2.out _).mono ?_
  rintro e w4 ⟨rfl,hb⟩
  have Hw4:=Lib.hid (HS3.out.next hb)
  clear hb
  clear Ac0 Ac1 Ac2 Af0 Af1 Af2 Ag0 Ag1 Ag2 Ax0 Ax1 Ax2 Bc0 Bc1 Bc2 Bf0 Bf1 Bf2 Bg0 Bg1 Bg2 Bx0 Bx1 Bx2
  obtain ⟨⟨Ac0,Ac1,Ac2⟩,Af0,Af1,Af2,Ag0,Ag1,Ag2,Ax0,Ax1,Ax2⟩:=Hw4.out.cells
  have HS4:=Lib.hid (Hw4.out.put1 HQ.out.2.1 HQ.out.2.2 0)
  obtain ⟨⟨c0,c1,c2⟩,f0,f1,f2,g0,g1,g2,x0,x1,x2⟩:=HS4.out.cells
  have hk8:=((HS4.out.res.set 0 (.int .i64 0)).set 1 (.int .i64 0)).set 2 (.int .i64 0)
  have hb8:=((HS4.out.below.setCell (p:=⟨q0,0,none⟩) HQ.out.1 (.int .i64 0)).setCell (p:=⟨q0,1,none⟩) HQ.out.1 (.int .i64 0)).setCell (p:=⟨q0,2,none⟩) HQ.out.1 (.int .i64 0)
  simp only [List.setIfInBounds_toArray,List.set_cons_zero,List.set_cons_succ] at hk8
  have HK8:=Lib.hid hk8
  have HB8:=Lib.hid hb8
  clear hk8 hb8
  go_wp2_with fail
  have r0:=HK8.out.cell 0
  have r1:=HK8.out.cell 1
  have r2:=HK8.out.cell 2
  simp only [List.getElem?_toArray,List.getElem?_cons_zero,List.getElem?_cons_succ] at r0 r1 r2
  refine bodyPost_ret (v:=.tuple #[.agg #[.int .i64 0,.int .i64 0,.int .i64 0],.int .i64 30]) (by simp [results,Tryz.results97,go_sem,r0,r1,r2]) rfl ?_
  exact ⟨by unfold decAckV;rw [HNO.out];rfl,HB8.out⟩
 | some v2 =>
 obtain ⟨b,p2⟩:=v2
 rw [hd2] at hg2
 have HG2:=Lib.hid hg2
 unfold gotE at HG2
 simp only at HG2
 have k2:=Var.get_back hd2
 rw [hp128] at k2
 have hg3:=HG.out p2 (by omega)
 cases hd3:Var.get S p2 with
 | none =>
  rw [hd3] at hg3
  have HG3:=Lib.hid hg3
  unfold gotE at HG3
  simp only at HG3
  have HNO:=Lib.hid (show Po.decAck S=none from by
   cases hd:Po.decAck S with
   | none => rfl
   | some v =>
    obtain ⟨ho,fi,nx⟩:=v
    obtain ⟨kk,ee⟩:=Po.decAck_iff.1 hd
    obtain ⟨r1,r2,r3,e1,e2,e3⟩:=Po.ack_gets kk
    rw [← ee] at e1 e2 e3
    (rw [hd1] at e1;injection e1 with e1;injection e1 with e4 e5;rw [← e5,hd2] at e2;injection e2 with e2;injection e2 with e6 e7;rw [← e7,hd3] at e3;cases e3))
  clear hg1 hd1 hg2 hd2 hg3 hd3 k1 k2 hp128 HG HEA
  go_enter Tryz.func97,Tryz.ntmps97
  refine wp_seq_k fun L0 hL0 => ?_
  have HL0:=Lib.hid hL0
  clear hL0
  go_wp2_with fail
  rw [← HW1.out,← HQ0.out]
  refine HL0.out _ _ ?_
  clear HL0
  refine wp_seq_k fun L0 hL0 => ?_
  have HL0:=Lib.hid hL0
  clear hL0
  go_wp2_with fail
  rw [← HW2.out,← HQ1.out]
  refine HL0.out _ _ ?_
  clear HL0
  go_wp2_with fail
  refine (HG1.out _).mono ?_
  rintro e w3 ⟨rfl,hb⟩
  have Hw3:=Lib.hid (HI.out.next hb)
  clear hb
  obtain ⟨⟨Ac0,Ac1,Ac2⟩,Af0,Af1,Af2,Ag0,Ag1,Ag2,Ax0,Ax1,Ax2⟩:=Hw3.out.cells
  have HS3:=Lib.hid (Hw3.out.put0 HQ.out.2.1 HQ.out.2.2 (a:Int))
  obtain ⟨⟨Bc0,Bc1,Bc2⟩,Bf0,Bf1,Bf2,Bg0,Bg1,Bg2,Bx0,Bx1,Bx2⟩:=HS3.out.cells
  go_wp2_with fail
  refine (HG2.out _).mono ?_
  rintro e w4 ⟨rfl,hb⟩
  have Hw4:=Lib.hid (HS3.out.next hb)
  clear hb
  clear Ac0 Ac1 Ac2 Af0 Af1 Af2 Ag0 Ag1 Ag2 Ax0 Ax1 Ax2 Bc0 Bc1 Bc2 Bf0 Bf1 Bf2 Bg0 Bg1 Bg2 Bx0 Bx1 Bx2
  obtain ⟨⟨Ac0,Ac1,Ac2⟩,Af0,Af1,Af2,Ag0,Ag1,Ag2,Ax0,Ax1,Ax2⟩:=Hw4.out.cells
  have HS4:=Lib.hid (Hw4.out.put1 HQ.out.2.1 HQ.out.2.2 (b:Int))
  obtain ⟨⟨Bc0,Bc1,Bc2⟩,Bf0,Bf1,Bf2,Bg0,Bg1,Bg2,Bx0,Bx1,Bx2⟩:=HS4.out.cells
  go_wp2_with fail
  refine (HG3.out _).mono ?_
  rintro e w5 ⟨rfl,hb⟩
  have Hw5:=Lib.hid (HS4.out.next hb)
  clear hb
  clear Ac0 Ac1 Ac2 Af0 Af1 Af2 Ag0 Ag1 Ag2 Ax0 Ax1 Ax2 Bc0 Bc1 Bc2 Bf0 Bf1 Bf2 Bg0 Bg1 Bg2 Bx0 Bx1 Bx2
  obtain ⟨⟨c0,c1,c2⟩,f0,f1,f2,g0,g1,g2,x0,x1,x2⟩:=Hw5.out.cells
  have hk8:=((Hw5.out.res.set 0 (.int .i64 0)).set 1 (.int .i64 0)).set 2 (.int .i64 0)
  have hb8:=((Hw5.out.below.setCell (p:=⟨q0,0,none⟩) HQ.out.1 (.int .i64 0)).setCell (p:=⟨q0,1,none⟩) HQ.out.1 (.int .i64 0)).setCell (p:=⟨q0,2,none⟩) HQ.out.1 (.int .i64 0)
  simp only [List.setIfInBounds_toArray,List.set_cons_zero,List.set_cons_succ] at hk8
  have HK8:=Lib.hid hk8
  have HB8:=Lib.hid hb8
  clear hk8 hb8
  go_wp2_with fail
  have r0:=HK8.out.cell 0
  have r1:=HK8.out.cell 1
  have r2:=HK8.out.cell 2
  simp only [List.getElem?_toArray,List.getElem?_cons_zero,List.getElem?_cons_succ] at r0 r1 r2
  refine bodyPost_ret (v:=.tuple #[.agg #[.int .i64 0,.int .i64 0,.int .i64 0],.int .i64 30]) (by simp [results,Tryz.results97,go_sem,r0,r1,r2]) rfl ?_
  exact ⟨by unfold decAckV;rw [HNO.out];rfl,HB8.out⟩
 | some v3 =>
 obtain ⟨c,p3⟩:=v3
 rw [hd3] at hg3
 have HG3:=Lib.hid hg3
 unfold gotE at HG3
 simp only at HG3
 have k3:=Var.get_back hd3
 rw [hp128] at k3
 have HALL:=Lib.hid (show ∀ ho fi nx,Po.decAck S=some (ho,fi,nx)→(a:Int)=ho∧(b:Int)=fi∧(c:Int)=nx-fi∧Po.AckOk ho fi nx∧S=Po.ackS ho fi (nx-fi) from fun ho fi nx hd => by
  obtain ⟨kk,ee⟩:=Po.decAck_iff.1 hd
  obtain ⟨r1,r2,r3,e1,e2,e3⟩:=Po.ack_gets kk
  rw [← ee] at e1 e2 e3
  rw [hd1] at e1
  injection e1 with e1
  injection e1 with e4 e5
  rw [← e5,hd2] at e2
  injection e2 with e2
  injection e2 with e6 e7
  rw [← e7,hd3] at e3
  injection e3 with e3
  injection e3 with e8 e9
  have h1:=kk.host.1
  have h2:=kk.first.1
  have h3:=kk.le
  exact ⟨by omega,by omega,by omega,kk,ee⟩)
 have hNO:(∀ ho fi nx,Po.decAck S≠some (ho,fi,nx))→Po.decAck S=none:=fun h => by
  cases hd:Po.decAck S with
  | none => rfl
  | some v => obtain ⟨ho,fi,nx⟩:=v;exact absurd hd (h _ _ _)
 have ha9:=k1.2.2.2.2
 have hb9:=k2.2.2.2.2
 have hc9:=k3.2.2.2.2
 clear hg1 hd1 hg2 hd2 hg3 hd3 k1 k2 k3 hp128 HG
 by_cases hbm:b≤2147483647
 case neg =>
  have HNO:=Lib.hid (hNO fun ho fi nx hd => by obtain ⟨_,e2,_,kk,_⟩:=HALL.out _ _ _ hd;have:=kk.first.2;omega)
  have q2:(2147483647:Int)<b:=by omega
  have q2':2147483647<b:=by omega
  clear hNO HALL hbm HEA
  go_enter Tryz.func97,Tryz.ntmps97
  refine wp_seq_k fun L0 hL0 => ?_
  have HL0:=Lib.hid hL0
  clear hL0
  go_wp2_with fail
  rw [← HW1.out,← HQ0.out]
  refine HL0.out _ _ ?_
  clear HL0
  refine wp_seq_k fun L0 hL0 => ?_
  have HL0:=Lib.hid hL0
  clear hL0
  go_wp2_with fail
  rw [← HW2.out,← HQ1.out]
  refine HL0.out _ _ ?_
  clear HL0
  go_wp2_with fail
  refine (HG1.out _).mono ?_
  rintro e w3 ⟨rfl,hb⟩
  have Hw3:=Lib.hid (HI.out.next hb)
  clear hb
  obtain ⟨⟨Ac0,Ac1,Ac2⟩,Af0,Af1,Af2,Ag0,Ag1,Ag2,Ax0,Ax1,Ax2⟩:=Hw3.out.cells
  have HS3:=Lib.hid (Hw3.out.put0 HQ.out.2.1 HQ.out.2.2 (a:Int))
  obtain ⟨⟨Bc0,Bc1,Bc2⟩,Bf0,Bf1,Bf2,Bg0,Bg1,Bg2,Bx0,Bx1,Bx2⟩:=HS3.out.cells
  go_wp2_with fail
  refine (HG2.out _).mono ?_
  rintro e w4 ⟨rfl,hb⟩
  have Hw4:=Lib.hid (HS3.out.next hb)
  clear hb
  clear Ac0 Ac1 Ac2 Af0 Af1 Af2 Ag0 Ag1 Ag2 Ax0 Ax1 Ax2 Bc0 Bc1 Bc2 Bf0 Bf1 Bf2 Bg0 Bg1 Bg2 Bx0 Bx1 Bx2
  obtain ⟨⟨Ac0,Ac1,Ac2⟩,Af0,Af1,Af2,Ag0,Ag1,Ag2,Ax0,Ax1,Ax2⟩:=Hw4.out.cells
  have HS4:=Lib.hid (Hw4.out.put1 HQ.out.2.1 HQ.out.2.2 (b:Int))
  obtain ⟨⟨Bc0,Bc1,Bc2⟩,Bf0,Bf1,Bf2,Bg0,Bg1,Bg2,Bx0,Bx1,Bx2⟩:=HS4.out.cells
  go_wp2_with fail
  refine (HG3.out _).mono ?_
  rintro e w5 ⟨rfl,hb⟩
  have Hw5:=Lib.hid (HS4.out.next hb)
  clear hb
  clear Ac0 Ac1 Ac2 Af0 Af1 Af2 Ag0 Ag1 Ag2 Ax0 Ax1 Ax2 Bc0 Bc1 Bc2 Bf0 Bf1 Bf2 Bg0 Bg1 Bg2 Bx0 Bx1 Bx2
  obtain ⟨⟨c0,c1,c2⟩,f0,f1,f2,g0,g1,g2,x0,x1,x2⟩:=Hw5.out.cells
  have hk8:=((Hw5.out.res.set 0 (.int .i64 0)).set 1 (.int .i64 0)).set 2 (.int .i64 0)
  have hb8:=((Hw5.out.below.setCell (p:=⟨q0,0,none⟩) HQ.out.1 (.int .i64 0)).setCell (p:=⟨q0,1,none⟩) HQ.out.1 (.int .i64 0)).setCell (p:=⟨q0,2,none⟩) HQ.out.1 (.int .i64 0)
  simp only [List.setIfInBounds_toArray,List.set_cons_zero,List.set_cons_succ] at hk8
  have HK8:=Lib.hid hk8
  have HB8:=Lib.hid hb8
  clear hk8 hb8
  go_wp2_with fail
  have r0:=HK8.out.cell 0
  have r1:=HK8.out.cell 1
  have r2:=HK8.out.cell 2
  simp only [List.getElem?_toArray,List.getElem?_cons_zero,List.getElem?_cons_succ] at r0 r1 r2
  refine bodyPost_ret (v:=.tuple #[.agg #[.int .i64 0,.int .i64 0,.int .i64 0],.int .i64 30]) (by simp [results,Tryz.results97,go_sem,r0,r1,r2]) rfl ?_
  exact ⟨by unfold decAckV;rw [HNO.out];rfl,HB8.out⟩
 case pos =>
 have q2:¬ (2147483647:Int)<b:=by omega
 by_cases hcm:c≤2147483647
 case neg =>
  have HNO:=Lib.hid (hNO fun ho fi nx hd => by obtain ⟨_,e2,e3,kk,_⟩:=HALL.out _ _ _ hd;have:=kk.next.2;have:=kk.first.1;omega)
  have q3:(2147483647:Int)<c:=by omega
  clear hNO HALL hbm HEA
  go_enter Tryz.func97,Tryz.ntmps97
  refine wp_seq_k fun L0 hL0 => ?_
  have HL0:=Lib.hid hL0
  clear hL0
  go_wp2_with fail
  rw [← HW1.out,← HQ0.out]
  refine HL0.out _ _ ?_
  clear HL0
  refine wp_seq_k fun L0 hL0 => ?_
  have HL0:=Lib.hid hL0
  clear hL0
  go_wp2_with fail
  rw [← HW2.out,← HQ1.out]
  refine HL0.out _ _ ?_
  clear HL0
  go_wp2_with fail
  refine (HG1.out _).mono ?_
  rintro e w3 ⟨rfl,hb⟩
  have Hw3:=Lib.hid (HI.out.next hb)
  clear hb
  obtain ⟨⟨Ac0,Ac1,Ac2⟩,Af0,Af1,Af2,Ag0,Ag1,Ag2,Ax0,Ax1,Ax2⟩:=Hw3.out.cells
  have HS3:=Lib.hid (Hw3.out.put0 HQ.out.2.1 HQ.out.2.2 (a:Int))
  obtain ⟨⟨Bc0,Bc1,Bc2⟩,Bf0,Bf1,Bf2,Bg0,Bg1,Bg2,Bx0,Bx1,Bx2⟩:=HS3.out.cells
  go_wp2_with fail
  refine (HG2.out _).mono ?_
  rintro e w4 ⟨rfl,hb⟩
  have Hw4:=Lib.hid (HS3.out.next hb)
  clear hb
  clear Ac0 Ac1 Ac2 Af0 Af1 Af2 Ag0 Ag1 Ag2 Ax0 Ax1 Ax2 Bc0 Bc1 Bc2 Bf0 Bf1 Bf2 Bg0 Bg1 Bg2 Bx0 Bx1 Bx2
  obtain ⟨⟨Ac0,Ac1,Ac2⟩,Af0,Af1,Af2,Ag0,Ag1,Ag2,Ax0,Ax1,Ax2⟩:=Hw4.out.cells
  have HS4:=Lib.hid (Hw4.out.put1 HQ.out.2.1 HQ.out.2.2 (b:Int))
  obtain ⟨⟨Bc0,Bc1,Bc2⟩,Bf0,Bf1,Bf2,Bg0,Bg1,Bg2,Bx0,Bx1,Bx2⟩:=HS4.out.cells
  go_wp2_with fail
  refine (HG3.out _).mono ?_
  rintro e w5 ⟨rfl,hb⟩
  have Hw5:=Lib.hid (HS4.out.next hb)
  clear hb
  clear Ac0 Ac1 Ac2 Af0 Af1 Af2 Ag0 Ag1 Ag2 Ax0 Ax1 Ax2 Bc0 Bc1 Bc2 Bf0 Bf1 Bf2 Bg0 Bg1 Bg2 Bx0 Bx1 Bx2
  obtain ⟨⟨c0,c1,c2⟩,f0,f1,f2,g0,g1,g2,x0,x1,x2⟩:=Hw5.out.cells
  have hk8:=((Hw5.out.res.set 0 (.int .i64 0)).set 1 (.int .i64 0)).set 2 (.int .i64 0)
  have hb8:=((Hw5.out.below.setCell (p:=⟨q0,0,none⟩) HQ.out.1 (.int .i64 0)).setCell (p:=⟨q0,1,none⟩) HQ.out.1 (.int .i64 0)).setCell (p:=⟨q0,2,none⟩) HQ.out.1 (.int .i64 0)
  simp only [List.setIfInBounds_toArray,List.set_cons_zero,List.set_cons_succ] at hk8
  have HK8:=Lib.hid hk8
  have HB8:=Lib.hid hb8
  clear hk8 hb8
  go_wp2_with fail
  have r0:=HK8.out.cell 0
  have r1:=HK8.out.cell 1
  have r2:=HK8.out.cell 2
  simp only [List.getElem?_toArray,List.getElem?_cons_zero,List.getElem?_cons_succ] at r0 r1 r2
  refine bodyPost_ret (v:=.tuple #[.agg #[.int .i64 0,.int .i64 0,.int .i64 0],.int .i64 30]) (by simp [results,Tryz.results97,go_sem,r0,r1,r2]) rfl ?_
  exact ⟨by unfold decAckV;rw [HNO.out];rfl,HB8.out⟩
 case pos =>
 have q3:¬ (2147483647:Int)<c:=by omega
 have hws:IntKind.i64.wrap ((b:Int)+(c:Int))=(b:Int)+(c:Int):=by rw [IntKind.wrap_i64];omega
 by_cases hak:Po.AckOk a b ((b:Int)+c)
 case neg =>
  have HNO:=Lib.hid (hNO fun ho fi nx hd => by
   obtain ⟨e1,e2,e3,kk,_⟩:=HALL.out _ _ _ hd
   refine hak ?_
   rw [e1,e2,e3,show fi+(nx-fi)=nx by omega]
   exact kk)
  have HE:=Lib.hid (HEA.out a b ((b:Int)+c))
  have he:encAck a b ((b:Int)+c)=(⟨#[]⟩,2):=by unfold encAck;rw [if_neg hak]
  rw [he] at HE
  simp only at HE
  clear hNO HALL hbm hcm HEA hak he
  go_enter Tryz.func97,Tryz.ntmps97
  refine wp_seq_k fun L0 hL0 => ?_
  have HL0:=Lib.hid hL0
  clear hL0
  go_wp2_with fail
  rw [← HW1.out,← HQ0.out]
  refine HL0.out _ _ ?_
  clear HL0
  refine wp_seq_k fun L0 hL0 => ?_
  have HL0:=Lib.hid hL0
  clear hL0
  go_wp2_with fail
  rw [← HW2.out,← HQ1.out]
  refine HL0.out _ _ ?_
  clear HL0
  go_wp2_with fail
  refine (HG1.out _).mono ?_
  rintro e w3 ⟨rfl,hb⟩
  have Hw3:=Lib.hid (HI.out.next hb)
  clear hb
  obtain ⟨⟨Ac0,Ac1,Ac2⟩,Af0,Af1,Af2,Ag0,Ag1,Ag2,Ax0,Ax1,Ax2⟩:=Hw3.out.cells
  have HS3:=Lib.hid (Hw3.out.put0 HQ.out.2.1 HQ.out.2.2 (a:Int))
  obtain ⟨⟨Bc0,Bc1,Bc2⟩,Bf0,Bf1,Bf2,Bg0,Bg1,Bg2,Bx0,Bx1,Bx2⟩:=HS3.out.cells
  go_wp2_with fail
  refine (HG2.out _).mono ?_
  rintro e w4 ⟨rfl,hb⟩
  have Hw4:=Lib.hid (HS3.out.next hb)
  clear hb
  clear Ac0 Ac1 Ac2 Af0 Af1 Af2 Ag0 Ag1 Ag2 Ax0 Ax1 Ax2 Bc0 Bc1 Bc2 Bf0 Bf1 Bf2 Bg0 Bg1 Bg2 Bx0 Bx1 Bx2
  obtain ⟨⟨Ac0,Ac1,Ac2⟩,Af0,Af1,Af2,Ag0,Ag1,Ag2,Ax0,Ax1,Ax2⟩:=Hw4.out.cells
  have HS4:=Lib.hid (Hw4.out.put1 HQ.out.2.1 HQ.out.2.2 (b:Int))
  obtain ⟨⟨Bc0,Bc1,Bc2⟩,Bf0,Bf1,Bf2,Bg0,Bg1,Bg2,Bx0,Bx1,Bx2⟩:=HS4.out.cells
  go_wp2_with fail
  refine (HG3.out _).mono ?_
  rintro e w5 ⟨rfl,hb⟩
  have Hw5:=Lib.hid (HS4.out.next hb)
  clear hb
  clear Ac0 Ac1 Ac2 Af0 Af1 Af2 Ag0 Ag1 Ag2 Ax0 Ax1 Ax2 Bc0 Bc1 Bc2 Bf0 Bf1 Bf2 Bg0 Bg1 Bg2 Bx0 Bx1 Bx2
  obtain ⟨⟨Ac0,Ac1,Ac2⟩,Af0,Af1,Af2,Ag0,Ag1,Ag2,Ax0,Ax1,Ax2⟩:=Hw5.out.cells
  have HS5:=Lib.hid (Hw5.out.put2 HQ.out.2.1 HQ.out.2.2 ((b:Int)+c))
  obtain ⟨⟨Bc0,Bc1,Bc2⟩,Bf0,Bf1,Bf2,Bg0,Bg1,Bg2,Bx0,Bx1,Bx2⟩:=HS5.out.cells
  go_wp2_with fail
  refine (HE.out _).mono ?_
  rintro e w6 ⟨rfl,hb⟩
  have Hw6:=Lib.hid (HS5.out.next hb)
  clear hb
  clear Ac0 Ac1 Ac2 Af0 Af1 Af2 Ag0 Ag1 Ag2 Ax0 Ax1 Ax2 Bc0 Bc1 Bc2 Bf0 Bf1 Bf2 Bg0 Bg1 Bg2 Bx0 Bx1 Bx2
  obtain ⟨⟨c0,c1,c2⟩,f0,f1,f2,g0,g1,g2,x0,x1,x2⟩:=Hw6.out.cells
  have hk8:=((Hw6.out.res.set 0 (.int .i64 0)).set 1 (.int .i64 0)).set 2 (.int .i64 0)
  have hb8:=((Hw6.out.below.setCell (p:=⟨q0,0,none⟩) HQ.out.1 (.int .i64 0)).setCell (p:=⟨q0,1,none⟩) HQ.out.1 (.int .i64 0)).setCell (p:=⟨q0,2,none⟩) HQ.out.1 (.int .i64 0)
  simp only [List.setIfInBounds_toArray,List.set_cons_zero,List.set_cons_succ] at hk8
  have HK8:=Lib.hid hk8
  have HB8:=Lib.hid hb8
  clear hk8 hb8
  go_wp2_with fail
  have r0:=HK8.out.cell 0
  have r1:=HK8.out.cell 1
  have r2:=HK8.out.cell 2
  simp only [List.getElem?_toArray,List.getElem?_cons_zero,List.getElem?_cons_succ] at r0 r1 r2
  refine bodyPost_ret (v:=.tuple #[.agg #[.int .i64 0,.int .i64 0,.int .i64 0],.int .i64 30]) (by simp [results,Tryz.results97,go_sem,r0,r1,r2]) rfl ?_
  exact ⟨by unfold decAckV;rw [HNO.out];rfl,HB8.out⟩
 case pos =>
 have HE:=Lib.hid (HEA.out a b ((b:Int)+c))
 have he:encAck a b ((b:Int)+c)=(ackB a b ((b:Int)+c),0):=by unfold encAck;rw [if_pos hak]
 rw [he] at HE
 simp only at HE
 have hTl:(ackB a b ((b:Int)+c)).data.toList=Po.ackS a b c:=by
  show Po.ackS a b ((b:Int)+c-b)=_
  rw [show (b:Int)+c-b=c by omega]
 obtain ⟨T,hT⟩:∃ T,T=ackB a b ((b:Int)+c):=⟨_,rfl⟩
 rw [← hT] at HE hTl
 by_cases hes:S=Po.ackS a b c
 case neg =>
  have HNO:=Lib.hid (hNO fun ho fi nx hd => by
   obtain ⟨e1,e2,e3,kk,ee⟩:=HALL.out _ _ _ hd
   refine hes ?_
   rw [e1,e2,e3]
   exact ee)
  have hq:(T.toList == s.toList)=false:=by
   rw [beq_eq_false_iff_ne]
   intro e
   rw [ByteArray.toList_eq,ByteArray.toList_eq] at e
   exact hes (by rw [HS.out,← e,hTl])
  have hq2:(T.toList != s.toList)=true:=by rw [bne,hq];rfl
  clear hNO HALL hbm hcm HEA hak he hT hTl hes
  go_enter Tryz.func97,Tryz.ntmps97
  refine wp_seq_k fun L0 hL0 => ?_
  have HL0:=Lib.hid hL0
  clear hL0
  go_wp2_with fail
  rw [← HW1.out,← HQ0.out]
  refine HL0.out _ _ ?_
  clear HL0
  refine wp_seq_k fun L0 hL0 => ?_
  have HL0:=Lib.hid hL0
  clear hL0
  go_wp2_with fail
  rw [← HW2.out,← HQ1.out]
  refine HL0.out _ _ ?_
  clear HL0
  go_wp2_with fail
  refine (HG1.out _).mono ?_
  rintro e w3 ⟨rfl,hb⟩
  have Hw3:=Lib.hid (HI.out.next hb)
  clear hb
  obtain ⟨⟨Ac0,Ac1,Ac2⟩,Af0,Af1,Af2,Ag0,Ag1,Ag2,Ax0,Ax1,Ax2⟩:=Hw3.out.cells
  have HS3:=Lib.hid (Hw3.out.put0 HQ.out.2.1 HQ.out.2.2 (a:Int))
  obtain ⟨⟨Bc0,Bc1,Bc2⟩,Bf0,Bf1,Bf2,Bg0,Bg1,Bg2,Bx0,Bx1,Bx2⟩:=HS3.out.cells
  go_wp2_with fail
  refine (HG2.out _).mono ?_
  rintro e w4 ⟨rfl,hb⟩
  have Hw4:=Lib.hid (HS3.out.next hb)
  clear hb
  clear Ac0 Ac1 Ac2 Af0 Af1 Af2 Ag0 Ag1 Ag2 Ax0 Ax1 Ax2 Bc0 Bc1 Bc2 Bf0 Bf1 Bf2 Bg0 Bg1 Bg2 Bx0 Bx1 Bx2
  obtain ⟨⟨Ac0,Ac1,Ac2⟩,Af0,Af1,Af2,Ag0,Ag1,Ag2,Ax0,Ax1,Ax2⟩:=Hw4.out.cells
  have HS4:=Lib.hid (Hw4.out.put1 HQ.out.2.1 HQ.out.2.2 (b:Int))
  obtain ⟨⟨Bc0,Bc1,Bc2⟩,Bf0,Bf1,Bf2,Bg0,Bg1,Bg2,Bx0,Bx1,Bx2⟩:=HS4.out.cells
  go_wp2_with fail
  refine (HG3.out _).mono ?_
  rintro e w5 ⟨rfl,hb⟩
  have Hw5:=Lib.hid (HS4.out.next hb)
  clear hb
  clear Ac0 Ac1 Ac2 Af0 Af1 Af2 Ag0 Ag1 Ag2 Ax0 Ax1 Ax2 Bc0 Bc1 Bc2 Bf0 Bf1 Bf2 Bg0 Bg1 Bg2 Bx0 Bx1 Bx2
  obtain ⟨⟨Ac0,Ac1,Ac2⟩,Af0,Af1,Af2,Ag0,Ag1,Ag2,Ax0,Ax1,Ax2⟩:=Hw5.out.cells
  have HS5:=Lib.hid (Hw5.out.put2 HQ.out.2.1 HQ.out.2.2 ((b:Int)+c))
  obtain ⟨⟨Bc0,Bc1,Bc2⟩,Bf0,Bf1,Bf2,Bg0,Bg1,Bg2,Bx0,Bx1,Bx2⟩:=HS5.out.cells
  go_wp2_with fail
  refine (HE.out _).mono ?_
  rintro e w6 ⟨rfl,hb⟩
  have Hw6:=Lib.hid (HS5.out.next hb)
  clear hb
  clear Ac0 Ac1 Ac2 Af0 Af1 Af2 Ag0 Ag1 Ag2 Ax0 Ax1 Ax2 Bc0 Bc1 Bc2 Bf0 Bf1 Bf2 Bg0 Bg1 Bg2 Bx0 Bx1 Bx2
  obtain ⟨⟨c0,c1,c2⟩,f0,f1,f2,g0,g1,g2,x0,x1,x2⟩:=Hw6.out.cells
  have hk8:=((Hw6.out.res.set 0 (.int .i64 0)).set 1 (.int .i64 0)).set 2 (.int .i64 0)
  have hb8:=((Hw6.out.below.setCell (p:=⟨q0,0,none⟩) HQ.out.1 (.int .i64 0)).setCell (p:=⟨q0,1,none⟩) HQ.out.1 (.int .i64 0)).setCell (p:=⟨q0,2,none⟩) HQ.out.1 (.int .i64 0)
  simp only [List.setIfInBounds_toArray,List.set_cons_zero,List.set_cons_succ] at hk8
  have HK8:=Lib.hid hk8
  have HB8:=Lib.hid hb8
  clear hk8 hb8
  go_wp2_with fail
  have r0:=HK8.out.cell 0
  have r1:=HK8.out.cell 1
  have r2:=HK8.out.cell 2
  simp only [List.getElem?_toArray,List.getElem?_cons_zero,List.getElem?_cons_succ] at r0 r1 r2
  refine bodyPost_ret (v:=.tuple #[.agg #[.int .i64 0,.int .i64 0,.int .i64 0],.int .i64 30]) (by simp [results,Tryz.results97,go_sem,r0,r1,r2]) rfl ?_
  exact ⟨by unfold decAckV;rw [HNO.out];rfl,HB8.out⟩
 case pos =>
  have hq:(T.toList == s.toList)=true:=by
   rw [beq_iff_eq,ByteArray.toList_eq,ByteArray.toList_eq,hTl,← hes,HS.out]
  have hq2:(T.toList != s.toList)=false:=by rw [bne,hq];rfl
  have HYES:=Lib.hid (show decAckV S=.tuple #[.agg #[.int .i64 a,.int .i64 b,.int .i64 ((b:Int)+c)],.int .i64 0] from by
   have:Po.decAck S=some ((a:Int),(b:Int),(b:Int)+c):=Po.decAck_iff.2 ⟨hak,by rw [hes,show (b:Int)+c-b=c by omega]⟩
   unfold decAckV
   rw [this]
   rfl)
  clear hNO HALL hbm hcm HEA hak he hT hTl hes
  go_enter Tryz.func97,Tryz.ntmps97
  refine wp_seq_k fun L0 hL0 => ?_
  have HL0:=Lib.hid hL0
  clear hL0
  go_wp2_with fail
  rw [← HW1.out,← HQ0.out]
  refine HL0.out _ _ ?_
  clear HL0
  refine wp_seq_k fun L0 hL0 => ?_
  have HL0:=Lib.hid hL0
  clear hL0
  go_wp2_with fail
  rw [← HW2.out,← HQ1.out]
  refine HL0.out _ _ ?_
  clear HL0
  go_wp2_with fail
  refine (HG1.out _).mono ?_
  rintro e w3 ⟨rfl,hb⟩
  have Hw3:=Lib.hid (HI.out.next hb)
  clear hb
  obtain ⟨⟨Ac0,Ac1,Ac2⟩,Af0,Af1,Af2,Ag0,Ag1,Ag2,Ax0,Ax1,Ax2⟩:=Hw3.out.cells
  have HS3:=Lib.hid (Hw3.out.put0 HQ.out.2.1 HQ.out.2.2 (a:Int))
  obtain ⟨⟨Bc0,Bc1,Bc2⟩,Bf0,Bf1,Bf2,Bg0,Bg1,Bg2,Bx0,Bx1,Bx2⟩:=HS3.out.cells
  go_wp2_with fail
  refine (HG2.out _).mono ?_
  rintro e w4 ⟨rfl,hb⟩
  have Hw4:=Lib.hid (HS3.out.next hb)
  clear hb
  clear Ac0 Ac1 Ac2 Af0 Af1 Af2 Ag0 Ag1 Ag2 Ax0 Ax1 Ax2 Bc0 Bc1 Bc2 Bf0 Bf1 Bf2 Bg0 Bg1 Bg2 Bx0 Bx1 Bx2
  obtain ⟨⟨Ac0,Ac1,Ac2⟩,Af0,Af1,Af2,Ag0,Ag1,Ag2,Ax0,Ax1,Ax2⟩:=Hw4.out.cells
  have HS4:=Lib.hid (Hw4.out.put1 HQ.out.2.1 HQ.out.2.2 (b:Int))
  obtain ⟨⟨Bc0,Bc1,Bc2⟩,Bf0,Bf1,Bf2,Bg0,Bg1,Bg2,Bx0,Bx1,Bx2⟩:=HS4.out.cells
  go_wp2_with fail
  refine (HG3.out _).mono ?_
  rintro e w5 ⟨rfl,hb⟩
  have Hw5:=Lib.hid (HS4.out.next hb)
  clear hb
  clear Ac0 Ac1 Ac2 Af0 Af1 Af2 Ag0 Ag1 Ag2 Ax0 Ax1 Ax2 Bc0 Bc1 Bc2 Bf0 Bf1 Bf2 Bg0 Bg1 Bg2 Bx0 Bx1 Bx2
  obtain ⟨⟨Ac0,Ac1,Ac2⟩,Af0,Af1,Af2,Ag0,Ag1,Ag2,Ax0,Ax1,Ax2⟩:=Hw5.out.cells
  have HS5:=Lib.hid (Hw5.out.put2 HQ.out.2.1 HQ.out.2.2 ((b:Int)+c))
  obtain ⟨⟨Bc0,Bc1,Bc2⟩,Bf0,Bf1,Bf2,Bg0,Bg1,Bg2,Bx0,Bx1,Bx2⟩:=HS5.out.cells
  go_wp2_with fail
  refine (HE.out _).mono ?_
  rintro e w6 ⟨rfl,hb⟩
  have Hw6:=Lib.hid (HS5.out.next hb)
  clear hb
  clear Ac0 Ac1 Ac2 Af0 Af1 Af2 Ag0 Ag1 Ag2 Ax0 Ax1 Ax2 Bc0 Bc1 Bc2 Bf0 Bf1 Bf2 Bg0 Bg1 Bg2 Bx0 Bx1 Bx2
  obtain ⟨⟨c0,c1,c2⟩,f0,f1,f2,g0,g1,g2,x0,x1,x2⟩:=Hw6.out.cells
  have hk8:=((Hw6.out.res.set 0 (.int .i64 a)).set 1 (.int .i64 b)).set 2 (.int .i64 ((b:Int)+c))
  have hb8:=((Hw6.out.below.setCell (p:=⟨q0,0,none⟩) HQ.out.1 (.int .i64 a)).setCell (p:=⟨q0,1,none⟩) HQ.out.1 (.int .i64 b)).setCell (p:=⟨q0,2,none⟩) HQ.out.1 (.int .i64 ((b:Int)+c))
  simp only [List.setIfInBounds_toArray,List.set_cons_zero,List.set_cons_succ] at hk8
  have HK8:=Lib.hid hk8
  have HB8:=Lib.hid hb8
  clear hk8 hb8
  go_wp2_with fail
  have r0:=HK8.out.cell 0
  have r1:=HK8.out.cell 1
  have r2:=HK8.out.cell 2
  simp only [List.getElem?_toArray,List.getElem?_cons_zero,List.getElem?_cons_succ] at r0 r1 r2
  refine bodyPost_ret (v:=.tuple #[.agg #[.int .i64 a,.int .i64 b,.int .i64 ((b:Int)+c)],.int .i64 0]) (by simp [results,Tryz.results97,go_sem,r0,r1,r2]) rfl ?_
  exact ⟨by rw [HYES.out],HB8.out⟩
end Go.Proofs.YtdacanghbepjpaaGreatDoor
