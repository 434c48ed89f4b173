/- What a twin does: walked. A twin's acts come to what a host's do. A host and a twin in memory, side by side. -/
import Derived.Test.YtdacanghbepjpaaGreatDoorG13
set_option linter.unusedSimpArgs false
set_option linter.unusedVariables false
set_option maxRecDepth 100000
namespace Go.Proofs.YtdacanghbepjpaaGreatDoor
open Go.RowKit Go.Maps
open Dsk
section
variable {w0 w w':World} {P S K:Nat→Prop} {jh bd j jx s:Nat} {o o2:Hs}
variable {kd nd nn zt zi zp za zd mf mt:Int} {zs zh zn md:ByteArray} {kx:Option Addr} {kl kc:Nat}
theorem tdoes_no (n:TE w0 w K jh bd j jx o) (hu:o.up=false) (hk6:kd≠6) (hk7:kd≠17) :
  Calls Tryz.prog 59 #[.pointer (some ⟨jh,0,none⟩),.agg #[.int .i64 kd,.int .i64 nd,.int .i64 nn,.int .i64 zt,.int .i64 zi,.int .i64 zp,.string zs,.string zh,.int .i64 za,.int .i64 zd,.string zn,.slice kx kl kc],.agg #[.int .i64 mf,.int .i64 mt,.string md]] w fun e w9 => e=.returned (.tuple #[.string ⟨#[]⟩,.int .i64 250])∧TE w0 w9 K jh bd j jx o∧Keeps K w w9:=by
 have hd6:(kd == 6)=false:=beq_eq_false_iff_ne.2 hk6
 have hd7:(kd == 17)=false:=beq_eq_false_iff_ne.2 hk7
 obtain ⟨q1,hq1⟩:∃ q,q=w.heap.size:=⟨_,rfl⟩
 obtain ⟨w1,hw1⟩:∃ y,y=w.alloc (.cells #[.int .i64 kd,.int .i64 nd,.int .i64 nn,.int .i64 zt,.int .i64 zi,.int .i64 zp,.string zs,.string zh,.int .i64 za,.int .i64 zd,.string zn,.slice kx kl kc] 93 (0,0)):=⟨_,rfl⟩
 have hb1:=Zb hw1
 have hk1:=Zk hw1 hq1
 obtain ⟨q2,hq2⟩:∃ q,q=w1.heap.size:=⟨_,rfl⟩
 obtain ⟨w2,hw2⟩:∃ y,y=w1.alloc (.cells #[.int .i64 mf,.int .i64 mt,.string md] 100 (0,0)):=⟨_,rfl⟩
 have hb2:=Zb hw2
 have hk2:=Zk hw2 hq2
 have hb12:Below w.heap.size w w2:=hb1.trans (hb2.mono hb1.size)
 have hk1':=hk1.below hb2
 have HN:=Zh (n.below hb12)
 have HW1:=Zh hw1
 have HW2:=Zh hw2
 have HQ1:=Zh hq1
 have HQ2:=Zh hq2
 have HB:=Zh hb12
 have HQ3:=Zh (show q1+1=q2 by rw [HQ2.out,HW1.out,HQ1.out];exact (Array.size_push _).symm)
 have z0:=hk1'.cell 0
 have z1:=hk1'.cell 1
 have z2:=hk1'.cell 2
 have z3:=hk1'.cell 3
 have z4:=hk1'.cell 4
 have z5:=hk1'.cell 5
 have z6:=hk1'.cell 6
 have z7:=hk1'.cell 7
 have z8:=hk1'.cell 8
 have z9:=hk1'.cell 9
 have z10:=hk1'.cell 10
 have z11:=hk1'.cell 11
 have y0:=hk2.cell 0
 have y1:=hk2.cell 1
 have y2:=hk2.cell 2
 simp only [Zx] at z0 z1 z2 z3 z4 z5 z6 z7 z8 z9 z10 z11 y0 y1 y2
 obtain ⟨pl,px,hpp,c0,c1,c2,c3,c4,c5,c6⟩:=HN.out.cells
 rw [hu] at c6
 have HH:=Zh (And.intro HN.out (Keeps.below (X:=K) HB.out))
 clear hu hk6 hk7 HN HB
 clear hw1 hw2 hq1 hq2 hb1 hb2 hb12 hk1 hk2 hk1' n hpp
 go_enter Tryz.func59,Tryz.ntmps59
 refine wp_seq_k fun L0 hL0 => ?_
 have HL0:=Zh hL0
 clear hL0
 go_wp2_with fail
 rw [← HW1.out,← HW2.out,← HQ1.out,HQ3.out]
 refine HL0.out _ _ ?_
 clear HL0 HW1 HW2 HQ1 HQ2 HQ3
 go_wp2_with fail
 refine bodyPost_ret (v:=.tuple #[.string ⟨#[]⟩,.int .i64 250]) (by simp [results,Tryz.results59,go_sem]) rfl ?_
 exact ⟨rfl,HH.out⟩
theorem tdoes_tick (n:TE w0 w K jh bd j jx o) (hnow:0≤o.now∧o.now≤2000000000) :
  Calls Tryz.prog 59 #[.pointer (some ⟨jh,0,none⟩),.agg #[.int .i64 6,.int .i64 nd,.int .i64 nn,.int .i64 zt,.int .i64 zi,.int .i64 zp,.string zs,.string zh,.int .i64 za,.int .i64 zd,.string zn,.slice kx kl kc],.agg #[.int .i64 mf,.int .i64 mt,.string md]] w fun e w9 => e=.returned (.tuple #[.string ⟨#[]⟩,.int .i64 (tickO o).1])∧TE w0 w9 K jh bd j jx (tickO o).2∧Keeps K w w9:=by
 unfold tickO
 obtain ⟨q1,hq1⟩:∃ q,q=w.heap.size:=⟨_,rfl⟩
 obtain ⟨w1,hw1⟩:∃ y,y=w.alloc (.cells #[.int .i64 6,.int .i64 nd,.int .i64 nn,.int .i64 zt,.int .i64 zi,.int .i64 zp,.string zs,.string zh,.int .i64 za,.int .i64 zd,.string zn,.slice kx kl kc] 93 (0,0)):=⟨_,rfl⟩
 have hb1:=Zb hw1
 have hk1:=Zk hw1 hq1
 obtain ⟨q2,hq2⟩:∃ q,q=w1.heap.size:=⟨_,rfl⟩
 obtain ⟨w2,hw2⟩:∃ y,y=w1.alloc (.cells #[.int .i64 mf,.int .i64 mt,.string md] 100 (0,0)):=⟨_,rfl⟩
 have hb2:=Zb hw2
 have hk2:=Zk hw2 hq2
 have hb12:Below w.heap.size w w2:=hb1.trans (hb2.mono hb1.size)
 have hk1':=hk1.below hb2
 have HN:=Zh (n.below hb12)
 have HW1:=Zh hw1
 have HW2:=Zh hw2
 have HQ1:=Zh hq1
 have HQ2:=Zh hq2
 have HB:=Zh hb12
 have HQ3:=Zh (show q1+1=q2 by rw [HQ2.out,HW1.out,HQ1.out];exact (Array.size_push _).symm)
 have z0:=hk1'.cell 0
 have z1:=hk1'.cell 1
 have z2:=hk1'.cell 2
 have z3:=hk1'.cell 3
 have z4:=hk1'.cell 4
 have z5:=hk1'.cell 5
 have z6:=hk1'.cell 6
 have z7:=hk1'.cell 7
 have z8:=hk1'.cell 8
 have z9:=hk1'.cell 9
 have z10:=hk1'.cell 10
 have z11:=hk1'.cell 11
 have y0:=hk2.cell 0
 have y1:=hk2.cell 1
 have y2:=hk2.cell 2
 simp only [Zx] at z0 z1 z2 z3 z4 z5 z6 z7 z8 z9 z10 z11 y0 y1 y2
 obtain ⟨pl,px,hpp,c0,c1,c2,c3,c4,c5,c6⟩:=HN.out.cells
 have HK:=Zh (Keeps.below (X:=K) HB.out)
 obtain ⟨P9,pl9,px9,n9,hb9,hpp9,_⟩:=id HN.out
 have f1:=hb9.free 1
 clear n9 hb9 hpp9
 by_cases hm:o.now≥1073741824
 case pos =>
  rw [if_pos hm]
  clear HB
  clear hw1 hw2 hq1 hq2 hb1 hb2 hb12 hk1 hk2 hk1' n hpp
  go_enter Tryz.func59,Tryz.ntmps59
  refine wp_seq_k fun L0 hL0 => ?_
  have HL0:=Zh hL0
  clear hL0
  go_wp2_with fail
  rw [← HW1.out,← HW2.out,← HQ1.out,HQ3.out]
  refine HL0.out _ _ ?_
  clear HL0 HW1 HW2 HQ1 HQ2 HQ3
  go_wp2_with fail
  refine bodyPost_ret (v:=.tuple #[.string ⟨#[]⟩,.int .i64 3]) (by simp [results,Tryz.results59,go_sem]) rfl ?_
  exact ⟨rfl,HN.out,HK.out⟩
 case neg =>
 rw [if_neg hm]
 have hwr:IntKind.i64.wrap (o.now+1)=o.now+1:=by rw [IntKind.wrap_i64];omega
 have hm2:¬ (1073741824≤o.now):=hm
 have HSE:=Zh (HN.out.set (i:=1) (v:=.int .i64 (o.now+1)) (o':={ o with now:=o.now+1 }) (fun _ _ => rfl) (fun e => e) ⟨rfl,rfl,rfl⟩)
 clear hnow HN HB
 clear hw1 hw2 hq1 hq2 hb1 hb2 hb12 hk1 hk2 hk1' n hpp
 go_enter Tryz.func59,Tryz.ntmps59
 refine wp_seq_k fun L0 hL0 => ?_
 have HL0:=Zh hL0
 clear hL0
 go_wp2_with fail
 rw [← HW1.out,← HW2.out,← HQ1.out,HQ3.out]
 refine HL0.out _ _ ?_
 clear HL0 HW1 HW2 HQ1 HQ2 HQ3
 go_wp2_with fail
 refine bodyPost_ret (v:=.tuple #[.string ⟨#[]⟩,.int .i64 0]) (by simp [results,Tryz.results59,go_sem]) rfl ?_
 exact ⟨rfl,HSE.out.1,HK.out.trans HSE.out.2⟩
theorem tdoes_act {sx:ByteArray} {r:Int} (n:TE w0 w K jh bd j jx o) (hu:o.up=true) (hk6:kd≠6) (hk7:kd≠17) (hu2:o2.up=true)
  (f:∀ W,Below w.heap.size w W→TE w0 W K jh bd j jx o→Calls Tryz.prog 111 #[.pointer (some ⟨jh,0,none⟩),.agg #[.int .i64 kd,.int .i64 nd,.int .i64 nn,.int .i64 zt,.int .i64 zi,.int .i64 zp,.string zs,.string zh,.int .i64 za,.int .i64 zd,.string zn,.slice kx kl kc],.agg #[.int .i64 mf,.int .i64 mt,.string md]] W fun e w9 => e=.returned (.tuple #[.string sx,.int .i64 r])∧TE w0 w9 K jh bd j jx o2∧Keeps K W w9) :
  Calls Tryz.prog 59 #[.pointer (some ⟨jh,0,none⟩),.agg #[.int .i64 kd,.int .i64 nd,.int .i64 nn,.int .i64 zt,.int .i64 zi,.int .i64 zp,.string zs,.string zh,.int .i64 za,.int .i64 zd,.string zn,.slice kx kl kc],.agg #[.int .i64 mf,.int .i64 mt,.string md]] w fun e w9 => e=.returned (.tuple #[.string sx,.int .i64 r])∧TE w0 w9 K jh bd j jx o2.settle∧Keeps K w w9:=by
 have hd6:(kd == 6)=false:=beq_eq_false_iff_ne.2 hk6
 have hd7:(kd == 17)=false:=beq_eq_false_iff_ne.2 hk7
 obtain ⟨q1,hq1⟩:∃ q,q=w.heap.size:=⟨_,rfl⟩
 obtain ⟨w1,hw1⟩:∃ y,y=w.alloc (.cells #[.int .i64 kd,.int .i64 nd,.int .i64 nn,.int .i64 zt,.int .i64 zi,.int .i64 zp,.string zs,.string zh,.int .i64 za,.int .i64 zd,.string zn,.slice kx kl kc] 93 (0,0)):=⟨_,rfl⟩
 have hb1:=Zb hw1
 have hk1:=Zk hw1 hq1
 obtain ⟨q2,hq2⟩:∃ q,q=w1.heap.size:=⟨_,rfl⟩
 obtain ⟨w2,hw2⟩:∃ y,y=w1.alloc (.cells #[.int .i64 mf,.int .i64 mt,.string md] 100 (0,0)):=⟨_,rfl⟩
 have hb2:=Zb hw2
 have hk2:=Zk hw2 hq2
 have hb12:Below w.heap.size w w2:=hb1.trans (hb2.mono hb1.size)
 have hk1':=hk1.below hb2
 have HN:=Zh (n.below hb12)
 have HW1:=Zh hw1
 have HW2:=Zh hw2
 have HQ1:=Zh hq1
 have HQ2:=Zh hq2
 have HB:=Zh hb12
 have HQ3:=Zh (show q1+1=q2 by rw [HQ2.out,HW1.out,HQ1.out];exact (Array.size_push _).symm)
 have z0:=hk1'.cell 0
 have z1:=hk1'.cell 1
 have z2:=hk1'.cell 2
 have z3:=hk1'.cell 3
 have z4:=hk1'.cell 4
 have z5:=hk1'.cell 5
 have z6:=hk1'.cell 6
 have z7:=hk1'.cell 7
 have z8:=hk1'.cell 8
 have z9:=hk1'.cell 9
 have z10:=hk1'.cell 10
 have z11:=hk1'.cell 11
 have y0:=hk2.cell 0
 have y1:=hk2.cell 1
 have y2:=hk2.cell 2
 simp only [Zx] at z0 z1 z2 z3 z4 z5 z6 z7 z8 z9 z10 z11 y0 y1 y2
 obtain ⟨pl,px,hpp,c0,c1,c2,c3,c4,c5,c6⟩:=HN.out.cells
 rw [hu] at c6
 have HC:=Zh (f w2 hb12 HN.out)
 have HU2:=Zh hu2
 clear hu hk6 hk7 f hu2
 clear hw1 hw2 hq1 hq2 hb1 hb2 hb12 hk1 hk2 hk1' n hpp
 go_enter Tryz.func59,Tryz.ntmps59
 refine wp_seq_k fun L0 hL0 => ?_
 have HL0:=Zh hL0
 clear hL0
 go_wp2_with fail
 rw [← HW1.out,← HW2.out,← HQ1.out,HQ3.out]
 refine HL0.out _ _ ?_
 clear HL0 HW1 HW2 HQ1 HQ2 HQ3
 go_wp2_with fail
 refine HC.out.mono ?_
 rintro e w3 ⟨rfl,hn3,hk3⟩
 have HN3:=Zh hn3
 have HK3:=Zh ((Keeps.below HB.out).trans hk3)
 have HUP:=Zh hn3.isUp
 clear hn3 hk3 HC c0 c1 c2 c3 c4 c5 c6 z0 z1 z2 z3 z4 z5 z6 z7 z8 z9 z10 z11 y0 y1 y2
 obtain ⟨P9,pl9,px9,n9,hb9,hpp9,_⟩:=id HN3.out
 have c3:=hb9.cell 3
 have c6:=hb9.cell 6
 have f6:=hb9.free 6
 simp only [twV,List.getElem?_toArray,List.getElem?_cons_zero,List.getElem?_cons_succ] at c3 c6
 clear n9 hb9 hpp9
 obtain ⟨b9,hb9⟩:∃ b,b=!o2.d.off:=⟨_,rfl⟩
 rw [← hb9] at HUP
 have HSE:=Zh (HN3.out.set (i:=6) (v:=.bool b9) (o':=o2.settle) (fun _ _ => by simp [twV,Hs.settle,HU2.out,hb9]) (fun _ => HU2.out) ⟨rfl,rfl,rfl⟩)
 clear hb9
 go_wp2_with fail
 refine HUP.out.mono ?_
 rintro e w4 ⟨rfl,rfl⟩
 clear HUP
 go_wp2_with fail
 refine bodyPost_ret (v:=.tuple #[.string sx,.int .i64 r]) (by simp [results,Tryz.results59,go_sem]) rfl ?_
 exact ⟨rfl,HSE.out.1,HK3.out.trans HSE.out.2⟩
theorem tdoes_17 {r:Int} {Q:World→Prop} (n:TE w0 w K jh bd j jx o)
  (f:∀ W,Below w.heap.size w W→TE w0 W K jh bd j jx o→Calls Tryz.prog 110 #[.pointer (some ⟨jh,0,none⟩)] W fun e w9 => e=.returned (.int .i64 r)∧Q w9∧Keeps K W w9) :
  Calls Tryz.prog 59 #[.pointer (some ⟨jh,0,none⟩),.agg #[.int .i64 17,.int .i64 nd,.int .i64 nn,.int .i64 zt,.int .i64 zi,.int .i64 zp,.string zs,.string zh,.int .i64 za,.int .i64 zd,.string zn,.slice kx kl kc],.agg #[.int .i64 mf,.int .i64 mt,.string md]] w fun e w9 => e=.returned (.tuple #[.string ⟨#[]⟩,.int .i64 r])∧Q w9∧Keeps K w w9:=by
 obtain ⟨q1,hq1⟩:∃ q,q=w.heap.size:=⟨_,rfl⟩
 obtain ⟨w1,hw1⟩:∃ y,y=w.alloc (.cells #[.int .i64 17,.int .i64 nd,.int .i64 nn,.int .i64 zt,.int .i64 zi,.int .i64 zp,.string zs,.string zh,.int .i64 za,.int .i64 zd,.string zn,.slice kx kl kc] 93 (0,0)):=⟨_,rfl⟩
 have hb1:=Zb hw1
 have hk1:=Zk hw1 hq1
 obtain ⟨q2,hq2⟩:∃ q,q=w1.heap.size:=⟨_,rfl⟩
 obtain ⟨w2,hw2⟩:∃ y,y=w1.alloc (.cells #[.int .i64 mf,.int .i64 mt,.string md] 100 (0,0)):=⟨_,rfl⟩
 have hb2:=Zb hw2
 have hk2:=Zk hw2 hq2
 have hb12:Below w.heap.size w w2:=hb1.trans (hb2.mono hb1.size)
 have hk1':=hk1.below hb2
 have HN:=Zh (n.below hb12)
 have HW1:=Zh hw1
 have HW2:=Zh hw2
 have HQ1:=Zh hq1
 have HQ2:=Zh hq2
 have HB:=Zh hb12
 have HQ3:=Zh (show q1+1=q2 by rw [HQ2.out,HW1.out,HQ1.out];exact (Array.size_push _).symm)
 have z0:=hk1'.cell 0
 have z1:=hk1'.cell 1
 have z2:=hk1'.cell 2
 have z3:=hk1'.cell 3
 have z4:=hk1'.cell 4
 have z5:=hk1'.cell 5
 have z6:=hk1'.cell 6
 have z7:=hk1'.cell 7
 have z8:=hk1'.cell 8
 have z9:=hk1'.cell 9
 have z10:=hk1'.cell 10
 have z11:=hk1'.cell 11
 have y0:=hk2.cell 0
 have y1:=hk2.cell 1
 have y2:=hk2.cell 2
 simp only [Zx] at z0 z1 z2 z3 z4 z5 z6 z7 z8 z9 z10 z11 y0 y1 y2
 obtain ⟨pl,px,hpp,c0,c1,c2,c3,c4,c5,c6⟩:=HN.out.cells
 have HC:=Zh (f w2 hb12 HN.out)
 clear f
 clear hw1 hw2 hq1 hq2 hb1 hb2 hb12 hk1 hk2 hk1' n hpp
 go_enter Tryz.func59,Tryz.ntmps59
 refine wp_seq_k fun L0 hL0 => ?_
 have HL0:=Zh hL0
 clear hL0
 go_wp2_with fail
 rw [← HW1.out,← HW2.out,← HQ1.out,HQ3.out]
 refine HL0.out _ _ ?_
 clear HL0 HW1 HW2 HQ1 HQ2 HQ3
 go_wp2_with fail
 refine HC.out.mono ?_
 rintro e w3 ⟨rfl,hq3,hk3⟩
 have HQ3:=Zh hq3
 have HK3:=Zh ((Keeps.below HB.out).trans hk3)
 clear hq3 hk3 HC c0 c1 c2 c3 c4 c5 c6 z0 z1 z2 z3 z4 z5 z6 z7 z8 z9 z10 z11 y0 y1 y2
 go_wp2_with fail
 refine bodyPost_ret (v:=.tuple #[.string ⟨#[]⟩,.int .i64 r]) (by simp [results,Tryz.results59,go_sem]) rfl ?_
 exact ⟨rfl,HQ3.out,HK3.out⟩
end
end Go.Proofs.YtdacanghbepjpaaGreatDoor
namespace Go.Proofs.YtdacanghbepjpaaGreatDoor
open Go.RowKit Go.Maps
open Dsk
def sentT:List Ml→ByteArray
 | [] => noB
 | m::_ => m.data
theorem sentT_step (o:Hs):sentT (sentO o)=(stepC o.now o.d o.h o.x).1.1:=by
 unfold sentO
 split
 · rename_i h;first | exact h.symm | (simp only [sentT];exact (of_decide_eq_true (by simpa using h)).symm) | simp_all [sentT]
 rfl
theorem does_no {a:OAct} {o:Hs} (hu:o.up=false) (h6:a.kind≠6):doesO a o=(([],250),o):=by
 unfold doesO
 simp only [HoR.no hu]
 repeat' split
 all_goals first
  | rfl
  | (unfold stepR;rw [if_neg (by rw [hu];decide)])
  | (rename_i h;exact absurd h h6)
theorem tdoes_any {w0 w:World} {K:Nat→Prop} {jh bd j jx B c k:Nat} {o:Hs} (a:OAct) (n:TE w0 w K jh bd j jx o) (he:LEnv w0) (b:HoB o c k) (hk:k≤790) (hc:250*(k+2)≤c) (ha:OActOk w B a) (hB:B≤w0.heap.size) (hkl:a.keep.length≤1000000)
  (hm:a.kind=1∨a.kind=2∨a.kind=3∨a.kind=4∨a.kind=5∨a.kind=6∨a.kind=7∨a.kind=15∨a.kind=16) :
  Calls Tryz.prog 59 #[.pointer (some ⟨jh,0,none⟩),.agg ((oactC a).take 12).toArray,mlV (mailO a o.id)] w fun e w9 => e=.returned (.tuple #[.string (sentT (doesO a o).1.1),.int .i64 (doesO a o).1.2])∧TE w0 w9 K jh bd j jx (doesO a o).2∧Keeps K w w9:=by
 obtain ⟨s,ok⟩:∃ s,(o.up=true→Few o.d o.h s o.x∧NowB o.now o.x.sent∧0≤o.refused∧o.refused≤1000000):=by
  by_cases hu:o.up=true
  · obtain ⟨s,h⟩:=b.few (by omega) hc hu
    exact ⟨s,fun _ => h⟩
  exact ⟨0,fun e => absurd e hu⟩
 have hnow:0≤o.now∧o.now≤2000000000:=by have:=b.now;omega
 obtain ⟨kx,kc,hkv,_⟩:=id ha.kv
 have hms:(mailO a o.id).data.size≤maxLen:=mail_size _ _ ha.data
 obtain ⟨M,hM⟩:∃ M,M=mailO a o.id:=⟨_,rfl⟩
 rw [← hM] at hms ⊢
 obtain ⟨mf,mt,md⟩:=M
 by_cases h6:a.kind=6
 · have hD:doesO a o=(([],(tickO o).1),(tickO o).2):=by unfold doesO;simp [h6]
   rw [hD]
   obtain ⟨kd,nd,nn,⟨zt,zi,zp,zs,zh,za,zd,zn⟩,kv,keep,own,ah,af,an,adt⟩:=a
   simp only at hkv h6
   subst hkv h6
   exact tdoes_tick n hnow
 by_cases hu:o.up=true
 case neg =>
  rw [Bool.not_eq_true] at hu
  rw [does_no hu h6]
  have h7:a.kind≠17:=by omega
  obtain ⟨kd,nd,nn,⟨zt,zi,zp,zs,zh,za,zd,zn⟩,kv,keep,own,ah,af,an,adt⟩:=a
  simp only at hkv h6 h7
  subst hkv
  exact tdoes_no n hu h6 h7
 obtain ⟨f,hnb,hr⟩:=ok hu
 have hkr:∀ (W:World),Below w.heap.size w W→KeepR W (fun k => w0.heap.size≤k) a.kv a.keep:=fun W hW => (ha.kv.chg (T:=fun _ => False) (Chg.of_below hW) (fun _ e => e.elim)).mono fun q hq => Nat.le_trans hB hq
 have hs1:=ha.s.service
 have hs2:=ha.s.host
 have hs3:=ha.s.note
 have hn2:=ha.n.2
 unfold doesO
 simp only [HoR.up hu,← hM]
 obtain ⟨kd,nd,nn,⟨zt,zi,zp,zs,zh,za,zd,zn⟩,kv,keep,own,ah,af,an,adt⟩:=a
 simp only at hkv hm hkl h6 hkr hs1 hs2 hs3 hn2 ⊢
 subst hkv
 rcases hm with rfl | rfl | rfl | rfl | rfl | rfl | rfl | rfl | rfl
 · simp only [Int.reduceEq,if_true,if_false,reduceIte]
   exact tdoes_act (kd:=1) n hu (by decide) (by decide) hu fun W hW n' => act_1 n' hu he f hs1 hs2 hs3 hr
 · simp only [Int.reduceEq,if_true,if_false,reduceIte]
   exact tdoes_act (kd:=2) n hu (by decide) (by decide) hu fun W hW n' => act_2 n' hu he f
 · simp only [Int.reduceEq,if_true,if_false,reduceIte]
   exact tdoes_act (kd:=3) n hu (by decide) (by decide) hu fun W hW n' => act_3 n' hu he f
 · simp only [Int.reduceEq,if_true,if_false,reduceIte]
   exact tdoes_act (kd:=4) n hu (by decide) (by decide) hu fun W hW n' => act_4 n' hu he f
 · simp only [Int.reduceEq,if_true,if_false,reduceIte]
   unfold stepR
   simp only [hu,if_true,sentT_step]
   exact tdoes_act (o2:=stepO o) (kd:=5) n hu (by decide) (by decide) hu fun W hW n' => act_5 n' hu he f hnb
 · exact absurd rfl h6
 · simp only [Int.reduceEq,if_true,if_false,reduceIte]
   refine tdoes_act (kd:=7) (o2:=(takeO ⟨mf,mt,md⟩ o).2) n hu (by decide) (by decide) ?_ fun W hW n' => act_7 n' hu he f hms
   unfold takeO
   split <;> exact hu
 · simp only [Int.reduceEq,if_true,if_false,reduceIte]
   exact tdoes_act (kd:=15) n hu (by decide) (by decide) hu fun W hW n' => act_15 n' hu he f (hkr W hW) hkl
 simp only [Int.reduceEq,if_true,if_false,reduceIte]
 exact tdoes_act (kd:=16) n hu (by decide) (by decide) hu fun W hW n' => act_16 n' hu he f (hkr W hW) hkl hn2
theorem tdoes_all {w0 w:World} {K:Nat→Prop} {jh bd j jx B c k:Nat} {o:Hs} (a:OAct) (n:TE w0 w K jh bd j jx o) (he:LEnv w0) (b:HoB o c k) (hk:k≤790) (hc:250*(k+2)≤c) (ha:OActOk w B a) (hB:B≤w0.heap.size) (hkl:a.keep.length≤1000000)
  (hm:MayK a.kind) {R:(List Ml×Int)×Hs} (hR:DoesR a o R) :
  Calls Tryz.prog 59 #[.pointer (some ⟨jh,0,none⟩),.agg ((oactC a).take 12).toArray,mlV (mailO a o.id)] w fun e w9 => e=.returned (.tuple #[.string (sentT R.1.1),.int .i64 R.1.2])∧(∃ bd j jx,TE w0 w9 K jh bd j jx R.2)∧Keeps K w w9:=by
 by_cases h17:a.kind=17
 · obtain ⟨M,hM⟩:∃ M,M=mailO a o.id:=⟨_,rfl⟩
   rw [← hM]
   obtain ⟨mf,mt,md⟩:=M
   obtain ⟨kx,kc,hkv,_⟩:=id ha.kv
   obtain ⟨kd,nd,nn,⟨zt,zi,zp,zs,zh,za,zd,zn⟩,kv,keep,own,ah,af,an,adt⟩:=a
   simp only at hkv h17
   subst hkv h17
   rcases hR with ⟨e,_⟩ | ⟨_,hu,rfl⟩ | ⟨_,hu,o',l,t,dr,d3,A,rfl⟩
   · exact absurd rfl e
   · exact tdoes_17 (r:=250) (Q:=fun w9 => ∃ bd j jx,TE w0 w9 K jh bd j jx o) n fun W hW n' => (tw_restart_up n' hu).mono (by
      rintro e w2 ⟨rfl,rfl⟩
      exact ⟨rfl,⟨_,_,_,n'⟩,Chg.refl _ _⟩)
   exact tdoes_17 (r:=0) (Q:=fun w9 => ∃ bd j jx,TE w0 w9 K jh bd j jx o') n fun W hW n' => (tw_restart n' he hu A.off A.start A.on A.files A.next A.opened A.dOff A.load b.id).mono (by
    rintro e w2 ⟨rfl,j2,jx2,n2,hk2⟩
    exact ⟨rfl,⟨_,_,_,by rw [A.is];exact n2⟩,hk2⟩)
 rcases hR with ⟨_,rfl⟩ | ⟨e,_⟩ | ⟨e,_⟩
 · refine (tdoes_any a n he b hk hc ha hB hkl (by unfold MayK at hm;omega)).mono ?_
   rintro e w2 ⟨rfl,n2,hk2⟩
   exact ⟨rfl,⟨_,_,_,n2⟩,hk2⟩
 · exact absurd e h17
 exact absurd e h17
end Go.Proofs.YtdacanghbepjpaaGreatDoor
namespace Go.Proofs.YtdacanghbepjpaaGreatDoor
open Go.RowKit Go.Maps
open Dsk
structure TX (w0:World) (P:Nat→Prop) (W:World) (jt bd j jx:Nat) (o:Hs):Prop where
 hn:HN w0 P W bd j jx o
 blk:∃ pl px,Blk W jt 115 (twV o bd pl px)∧(o.up=true→pl=some ⟨j,0,none⟩∧px=some ⟨jx,0,none⟩)
 out:¬ P jt
 new:w0.heap.size≤jt
section
variable {w0 w w':World} {P S K:Nat→Prop} {jh bd j jx jt bd' j' jx':Nat} {o o2 o':Hs}
theorem TX.lt (h:TX w0 P w jt bd j jx o):jt<w.heap.size:=by obtain ⟨pl,px,h,_⟩:=h.blk;exact h.lt
theorem TX.chg (h:TX w0 P w jt bd j jx o) (c:Chg S w w') (hS:∀ k,k<w.heap.size→S k→w0.heap.size≤k∧¬ P k) (hj:¬ S jt):TX w0 P w' jt bd j jx o:=by
 obtain ⟨h1,⟨pl,px,h2,h3⟩,h4,h5⟩:=h
 exact ⟨h1.other c hS,⟨pl,px,h2.chg c hj,h3⟩,h4,h5⟩
theorem TX.below (h:TX w0 P w jt bd j jx o) (y:Below w.heap.size w w'):TX w0 P w' jt bd j jx o:=h.chg (S:=fun _ => False) (Chg.of_below y) (fun _ _ e => e.elim) (fun e => e)
theorem HX.chg (h:HX w0 P w jh bd j jx o) (c:Chg S w w') (hS:∀ k,k<w.heap.size→S k→w0.heap.size≤k∧¬ P k) (hj:¬ S jh):HX w0 P w' jh bd j jx o :=
 ⟨h.hn.other c hS,h.blk.chg c hj,h.out,h.new⟩
def HT (w0 W:World) (K:Nat→Prop) (jh bd j jx:Nat) (o:Hs) (jt bd' j' jx':Nat) (o':Hs):Prop :=
 ∃ P P',HX w0 P W jh bd j jx o∧TX w0 P' W jt bd' j' jx' o'∧(∀ k,P k→¬ P' k)∧¬ P jt∧¬ P' jh∧jh≠jt∧∀ k,K k→¬ P k∧¬ P' k∧k≠jh∧k≠jt∧k<W.heap.size
theorem HT.base (h:HT w0 w K jh bd j jx o jt bd' j' jx' o'):Below w0.heap.size w0 w:=by
 obtain ⟨P,P',h1,_⟩:=h
 exact h1.hn.base
theorem HT.below (h:HT w0 w K jh bd j jx o jt bd' j' jx' o') (y:Below w.heap.size w w'):HT w0 w' K jh bd j jx o jt bd' j' jx' o':=by
 obtain ⟨P,P',h1,h2,h3,h4,h5,h6,h7⟩:=h
 exact ⟨P,P',⟨h1.hn.below y,h1.blk.below y,h1.out,h1.new⟩,h2.below y,h3,h4,h5,h6,fun k e => ⟨(h7 k e).1,(h7 k e).2.1,(h7 k e).2.2.1,(h7 k e).2.2.2.1,Nat.lt_of_lt_of_le (h7 k e).2.2.2.2 y.size⟩⟩
theorem HT.drop {K2:Nat→Prop} (h:HT w0 w K jh bd j jx o jt bd' j' jx' o') (hK:∀ k,K2 k→K k):HT w0 w K2 jh bd j jx o jt bd' j' jx' o':=by
 obtain ⟨P,P',h1,h2,h3,h4,h5,h6,h7⟩:=h
 exact ⟨P,P',h1,h2,h3,h4,h5,h6,fun k e => h7 k (hK k e)⟩
theorem HT.one (h:HT w0 w K jh bd j jx o jt bd' j' jx' o'):HE w0 w K jh bd j jx o:=by
 obtain ⟨P,P',h1,h2,h3,h4,h5,h6,h7⟩:=h
 exact ⟨P,h1.hn,h1.blk,h1.out,h1.new,fun k e => ⟨(h7 k e).1,(h7 k e).2.2.2.2,(h7 k e).2.2.1⟩⟩
theorem HT.two (h:HT w0 w K jh bd j jx o jt bd' j' jx' o'):TE w0 w K jt bd' j' jx' o':=by
 obtain ⟨P,P',h1,⟨g1,⟨pl,px,g2,g3⟩,g4,g5⟩,h3,h4,h5,h6,h7⟩:=h
 exact ⟨P',pl,px,g1,g2,g3,g4,g5,fun k e => ⟨(h7 k e).2.1,(h7 k e).2.2.2.2,(h7 k e).2.2.2.1⟩⟩
theorem HT.host (h:HT w0 w K jh bd j jx o jt bd' j' jx' o') {c:FuncId} {args:Array Value} {R:(List Ml×Int)×Hs} (f:∀ K2,HE w0 w K2 jh bd j jx o→Calls Tryz.prog c args w (DoesP w0 w K2 jh R)) :
  Calls Tryz.prog c args w fun e w' => ∃ u bd j jx,e=.returned (.tuple #[u,.int .i64 R.1.2])∧OwnMl w' w.heap.size u R.1.1∧HT w0 w' (KU K u) jh bd j jx R.2 jt bd' j' jx' o'∧Keeps K w w':=by
 obtain ⟨P,P',h1,h2,h3,h4,h5,h6,h7⟩:=h
 refine (f (fun k => k<w.heap.size∧¬ P k∧k≠jh) ⟨P,h1.hn,h1.blk,h1.out,h1.new,fun k e => ⟨e.2.1,e.1,e.2.2⟩⟩).mono ?_
 rintro e w' ⟨u,bd2,j2,jx2,rfl,hu,⟨P2,n2,b2,q1,q2,q3⟩,hk⟩
 have hz:=hk.size
 have hc:Chg (fun k => (P k∨k=jh)∧w0.heap.size≤k) w w':=⟨hk.os,hk.tape,hk.output,hk.size,fun i hi hs => by
  by_cases hb:w0.heap.size≤i
  · exact hk.block i hi fun e => e ⟨hi,fun e2 => hs ⟨.inl e2,hb⟩,fun e2 => hs ⟨.inr e2,hb⟩⟩
  have e1:=h1.hn.base.block i (by omega)
  have e2:=n2.base.block i (by omega)
  rw [e2,e1]⟩
 have hP2:∀ k,k<w.heap.size→P2 k→P k:=fun k hk9 e => by
  refine Classical.byContradiction fun hp => ?_
  by_cases hkj:k=jh
  · exact q1 (hkj ▸ e)
  exact (q3 k (.inl ⟨hk9,hp,hkj⟩)).1 e
 have j'lt:=h2.lt
 refine ⟨u,bd2,j2,jx2,rfl,hu,⟨P2,P',⟨n2,b2,q1,q2⟩,h2.chg hc (fun k _ e => ⟨e.2,e.1.elim (h3 k) fun e => e ▸ h5⟩) (fun e => e.1.elim h4 fun e => h6 e.symm),fun k e e2 => h3 k (hP2 k (h2.hn.lt k e2) e) e2,fun e => h4 (hP2 _ j'lt e),h5,h6,fun k e => ?_⟩,Chg.mono hc fun k _ e e2 => e.1.elim (h7 k e2).1 (h7 k e2).2.2.1⟩
 rcases e with e | e
 · obtain ⟨g1,g2,g3,g4,g5⟩:=h7 k e
   exact ⟨fun e2 => g1 (hP2 k g5 e2),g2,g3,g4,by omega⟩
 have:=OwnRow.lt hu k e
 have j9:=h1.blk.lt
 exact ⟨(q3 k (.inr e)).1,fun e2 => by have:=h2.hn.lt k e2;omega,by omega,by omega,this.2⟩
theorem HT.twin (h:HT w0 w K jh bd j jx o jt bd' j' jx' o') {c:FuncId} {args:Array Value} {v:Value} (f:∀ K2,TE w0 w K2 jt bd' j' jx' o'→Calls Tryz.prog c args w fun e w' => e=.returned v∧(∃ bd j jx,TE w0 w' K2 jt bd j jx o2)∧Keeps K2 w w') :
  Calls Tryz.prog c args w fun e w' => e=.returned v∧(∃ bd' j' jx',HT w0 w' K jh bd j jx o jt bd' j' jx' o2)∧Keeps K w w':=by
 obtain ⟨P,P',h1,h2,h3,h4,h5,h6,h7⟩:=h
 obtain ⟨g1,⟨pl,px,g2,g3⟩,g4,g5⟩:=h2
 refine (f (fun k => k<w.heap.size∧¬ P' k∧k≠jt) ⟨P',pl,px,g1,g2,g3,g4,g5,fun k e => ⟨e.2.1,e.1,e.2.2⟩⟩).mono ?_
 rintro e w' ⟨rfl,⟨bd2,j2,jx2,⟨P2,pl2,px2,n2,b2,b3,q1,q2,q3⟩⟩,hk⟩
 have hz:=hk.size
 have hc:Chg (fun k => (P' k∨k=jt)∧w0.heap.size≤k) w w':=⟨hk.os,hk.tape,hk.output,hk.size,fun i hi hs => by
  by_cases hb:w0.heap.size≤i
  · exact hk.block i hi fun e => e ⟨hi,fun e2 => hs ⟨.inl e2,hb⟩,fun e2 => hs ⟨.inr e2,hb⟩⟩
  have e1:=h1.hn.base.block i (by omega)
  have e2:=n2.base.block i (by omega)
  rw [e2,e1]⟩
 have hP2:∀ k,k<w.heap.size→P2 k→P' k:=fun k hk9 e => by
  refine Classical.byContradiction fun hp => ?_
  by_cases hkj:k=jt
  · exact q1 (hkj ▸ e)
  exact (q3 k ⟨hk9,hp,hkj⟩).1 e
 have jlt:=h1.blk.lt
 refine ⟨rfl,⟨bd2,j2,jx2,P,P2,h1.chg hc (fun k hk9 e => ⟨e.2,fun e9 => e.1.elim (h3 k e9) fun e => h4 (e ▸ e9)⟩) (fun e => e.1.elim h5 h6),⟨n2,⟨pl2,px2,b2,b3⟩,q1,q2⟩,fun k e e2 => h3 k e (hP2 k (h1.hn.lt k e) e2),h4,fun e => h5 (hP2 _ jlt e),h6,fun k e => ?_⟩,Chg.mono hc fun k _ e e2 => e.1.elim (h7 k e2).2.1 (h7 k e2).2.2.2.1⟩
 obtain ⟨g1,g2,g3,g4,g5⟩:=h7 k e
 exact ⟨g1,fun e2 => g2 (hP2 k g5 e2),g3,g4,by omega⟩
end
end Go.Proofs.YtdacanghbepjpaaGreatDoor
namespace Go.Proofs.YtdacanghbepjpaaGreatDoor
open Go.RowKit Go.Maps
open Dsk
theorem same_no {w0 w:World} {K:Nat→Prop} {jh bd j jx jt bd' j' jx':Nat} {o:Hs} (h:HT w0 w K jh bd j jx o jt bd' j' jx' o) (hu:o.up=false) :
  Calls Tryz.prog 60 #[.pointer (some ⟨jh,0,none⟩),.pointer (some ⟨jt,0,none⟩)] w fun e w' => e=.returned (.bool true)∧Below w.heap.size w w':=by
 have HL:=Zh (ho_log_no h.one hu)
 have HC:=Zh (ho_cursor h.one)
 have HW:=Zh (fun (W:World) (hW:Below w.heap.size w W) => ho_waiting (h.below hW).one)
 unfold curO curV at HC
 rw [hu] at HC HW
 simp only [Bool.false_and,if_neg (show ¬ (false=true) by decide)] at HC HW
 obtain ⟨pl,px,hpp,c0,c1,c2,c3,c4,c5,c6⟩:=h.two.cells
 rw [hu] at c6
 clear h hu hpp
 go_enter Tryz.func60,Tryz.ntmps60
 go_wp2_with fail
 refine HL.out.mono ?_
 rintro e w1 ⟨rfl,rfl⟩
 clear HL
 go_wp2_with fail
 refine HC.out.mono ?_
 rintro e w2 ⟨rfl,hb2⟩
 have HB2:=Zh hb2
 have HW2:=Zh (HW.out w2 hb2)
 clear HC HW hb2
 go_wp2_with fail
 refine HW2.out.mono ?_
 rintro e w3 ⟨rfl,rfl⟩
 clear HW2
 go_wp2_with fail
 go_ret
 exact ⟨rfl,HB2.out⟩
set_option maxHeartbeats 4000000 in
theorem same_up {w0 w:World} {K:Nat→Prop} {jh bd j jx jt bd9 j9 x9 s:Nat} {o:Hs} (h:HT w0 w K jh bd j jx o jt bd9 j9 x9 o) (hu:o.up=true) (he:LEnv w0) (f:Few o.d o.h s o.x) :
  Calls Tryz.prog 60 #[.pointer (some ⟨jh,0,none⟩),.pointer (some ⟨jt,0,none⟩)] w fun e w' => e=.returned (.bool true)∧Below w.heap.size w w':=by
 have HL:=Zh (ho_log_up h.one hu he f)
 have HF:=Zh (fun (W:World) (hW:Below w.heap.size w W) => (h.below hW).two.first hu f)
 have HS:=Zh (fun (W:World) (hW:Below w.heap.size w W) => (h.below hW).two.sure hu he f)
 have HE:=Zh (fun (W:World) (hW:Below w.heap.size w W) => (h.below hW).two.end_ hu f)
 have HC:=Zh (fun (W:World) (hW:Below w.heap.size w W) => ho_cursor (h.below hW).one)
 have HD:=Zh (fun (W:World) (hW:Below w.heap.size w W) => (h.below hW).two.cursor hu)
 have HW:=Zh (fun (W:World) (hW:Below w.heap.size w W) => ho_waiting (h.below hW).one)
 have HV:=Zh (fun (W:World) (hW:Below w.heap.size w W) => (h.below hW).two.waiting hu)
 unfold curO curV at HC
 unfold curV at HD
 rw [hu] at HC HW
 simp only [Bool.true_and,if_true] at HC HW
 have HTT:=Zh (fun (W:World) (hW:Below w.heap.size w W) => show W.cell? ⟨jt,6,none⟩=some (.bool true)∧W.cell? ⟨jt,4,none⟩=some (.pointer (some ⟨j9,0,none⟩))∧W.cell? ⟨jt,5,none⟩=some (.pointer (some ⟨x9,0,none⟩)) from by
  obtain ⟨pl,px,hpp,c0,c1,c2,c3,c4,c5,c6⟩:=(h.below hW).two.cells
  obtain ⟨rfl,rfl⟩:=hpp hu
  rw [hu] at c6
  exact ⟨c6,c4,c5⟩)
 obtain ⟨n1,hn1⟩:∃ n1:Nat,n1=firstOf o.h.l:=⟨_,rfl⟩
 obtain ⟨n2,hn2⟩:∃ n1:Nat,n1=sureOf o.h.l s:=⟨_,rfl⟩
 obtain ⟨n3,hn3⟩:∃ n1:Nat,n1=nextOf o.h.l:=⟨_,rfl⟩
 obtain ⟨m1,hm1⟩:∃ b,b=o.x.next:=⟨_,rfl⟩
 obtain ⟨m2,hm2⟩:∃ b,b=o.x.gap:=⟨_,rfl⟩
 obtain ⟨bw,hbw⟩:∃ b,b=!o.x.out.toList.isEmpty:=⟨_,rfl⟩
 rw [← hn1] at HF HL
 rw [← hn2] at HS HL
 rw [← hn3] at HE HL
 rw [← hm1,← hm2] at HC HD
 rw [← hbw] at HW HV
 clear h hu he f hn1 hn2 hn3 hm1 hm2 hbw
 go_enter Tryz.func60,Tryz.ntmps60
 go_wp2_with fail
 refine HL.out.mono ?_
 rintro e w1 ⟨rfl,hb1⟩
 have HB1:=Zh hb1
 obtain ⟨c6,c4,c5⟩:=HTT.out w1 hb1
 obtain ⟨x1,hx1⟩:∃ y,y=w1.drew:=⟨_,rfl⟩
 have HBX:=Zh (show Below w.heap.size w x1 by rw [hx1];exact hb1.drew)
 clear HL hb1
 have hT:=(HTT.out x1 HBX.out).2
 have hS:True:=trivial
 go_wp2_with fail
 refine wp_region_two (T:=fun W => W.cell? ⟨jt,4,none⟩=some (.pointer (some ⟨j9,0,none⟩))∧W.cell? ⟨jt,5,none⟩=some (.pointer (some ⟨x9,0,none⟩))) (S:=fun _ => True) (n:=99) (by kernel_rfl) ?_
 rw [← hx1]
 clear hx1
 refine tk 0 40 hT hS ?_
 refine tk 1 41 hT hS ?_
 try simp only [xq]
 refine tk 2 42 hT hS ?_
 refine tk 3 43 hT hS ?_
 try simp only [xq]
 refine tk 4 44 hT hS ?_
 try simp only [xq]
 refine two_one 5 rfl (by kernel_rfl) ?_
 intro K0 hK0
 go_simp
 refine (HF.out _ HBX.out).mono ?_
 rintro e y0 ⟨rfl,hb⟩
 have HB_0:=Zh (HBX.out.trans (hb.mono HBX.out.size))
 have hT3:=(HTT.out y0 HB_0.out).2
 refine hK0.out _ _ hT3 (fun _ _ => hS) ?_
 clear hK0 K0
 try simp only [xq]
 clear hT hb
 have hT:=hT3
 clear hT3
 refine tk 6 46 hT hS ?_
 refine tk 7 47 hT hS ?_
 try simp only [xq]
 refine tk 8 48 hT hS ?_
 refine tk 9 49 hT hS ?_
 try simp only [xq]
 refine tk 10 50 hT hS ?_
 refine tk 11 51 hT hS ?_
 try simp only [xq]
 refine tk 12 52 hT hS ?_
 try simp only [xq]
 refine two_one 13 rfl (by kernel_rfl) ?_
 intro K0 hK0
 go_simp
 refine (HS.out _ HB_0.out).mono ?_
 rintro e y1 ⟨rfl,hb⟩
 have HB_1:=Zh (HB_0.out.trans (hb.mono HB_0.out.size))
 have hT3:=(HTT.out y1 HB_1.out).2
 refine hK0.out _ _ hT3 (fun _ _ => hS) ?_
 clear hK0 K0
 try simp only [xq]
 clear hT hb
 have hT:=hT3
 clear hT3
 refine tk 14 54 hT hS ?_
 refine tk 15 55 hT hS ?_
 try simp only [xq]
 refine tk 16 56 hT hS ?_
 refine tk 17 57 hT hS ?_
 try simp only [xq]
 refine tk 18 58 hT hS ?_
 refine tk 19 59 hT hS ?_
 try simp only [xq]
 refine tk 20 60 hT hS ?_
 refine tk 21 61 hT hS ?_
 try simp only [xq]
 refine two_one 22 rfl (by kernel_rfl) ?_
 intro K0 hK0
 go_simp
 refine (HE.out _ HB_1.out).mono ?_
 rintro e y2 ⟨rfl,hb⟩
 have HB_2:=Zh (HB_1.out.trans (hb.mono HB_1.out.size))
 have hT3:=(HTT.out y2 HB_2.out).2
 refine hK0.out _ _ hT3 (fun _ _ => hS) ?_
 clear hK0 K0
 try simp only [xq]
 clear hT hb
 have hT:=hT3
 clear hT3
 refine tk 23 63 hT hS ?_
 refine tk 24 64 hT hS ?_
 try simp only [xq]
 refine tk 25 65 hT hS ?_
 refine tk 26 66 hT hS ?_
 try simp only [xq]
 refine tk 28 68 hT hS ?_
 refine tk 29 69 hT hS ?_
 try simp only [xq]
 refine tk 30 70 hT hS ?_
 refine tk 31 71 hT hS ?_
 try simp only [xq]
 refine two_one 27 rfl (by kernel_rfl) ?_
 intro K0 hK0
 go_simp
 refine (HC.out _ HB_2.out).mono ?_
 rintro e y3 ⟨rfl,hb⟩
 have HB_3:=Zh (HB_2.out.trans (hb.mono HB_2.out.size))
 have hT3:=(HTT.out y3 HB_3.out).2
 refine hK0.out _ _ hT3 (fun _ _ => hS) ?_
 clear hK0 K0
 try simp only [xq]
 clear hT hb
 have hT:=hT3
 clear hT3
 refine two_one 32 rfl (by kernel_rfl) ?_
 intro K0 hK0
 go_simp
 refine (HD.out _ HB_3.out).mono ?_
 rintro e y4 ⟨rfl,hb⟩
 have HB_4:=Zh (HB_3.out.trans (hb.mono HB_3.out.size))
 have hT3:=(HTT.out y4 HB_4.out).2
 refine hK0.out _ _ hT3 (fun _ _ => hS) ?_
 clear hK0 K0
 try simp only [xq]
 clear hT hb
 have hT:=hT3
 clear hT3
 refine tk 33 73 hT hS ?_
 refine tk 34 74 hT hS ?_
 try simp only [xq]
 refine tk 35 75 hT hS ?_
 refine tk 36 76 hT hS ?_
 try simp only [xq]
 refine tk 38 78 hT hS ?_
 refine tk 39 79 hT hS ?_
 try simp only [xq]
 refine tk 40 80 hT hS ?_
 refine tk 41 81 hT hS ?_
 try simp only [xq]
 refine two_one 37 rfl (by kernel_rfl) ?_
 intro K0 hK0
 go_simp
 refine (HW.out _ HB_4.out).mono ?_
 rintro e y5 ⟨rfl,rfl⟩
 have hT3:=hT
 refine hK0.out _ _ hT3 (fun _ _ => hS) ?_
 clear hK0 K0
 try simp only [xq]
 clear hT
 have hT:=hT3
 clear hT3
 refine two_one 42 rfl (by kernel_rfl) ?_
 intro K0 hK0
 go_simp
 refine (HV.out _ HB_4.out).mono ?_
 rintro e y6 ⟨rfl,rfl⟩
 have hT3:=hT
 refine hK0.out _ _ hT3 (fun _ _ => hS) ?_
 clear hK0 K0
 try simp only [xq]
 clear hT
 have hT:=hT3
 clear hT3
 refine tk 43 83 hT hS ?_
 refine tk 44 84 hT hS ?_
 try simp only [xq]
 refine tk 45 4 hT hS ?_
 try simp only [xq]
 refine two_done (by kernel_rfl) ?_ _
 clear hT HF HS HE HC HD HW HV HTT
 go_wp2_with fail
 go_ret
 exact ⟨rfl,HB_4.out⟩
end Go.Proofs.YtdacanghbepjpaaGreatDoor
namespace Go.Proofs.YtdacanghbepjpaaGreatDoor
open Go.RowKit Go.Maps
open Dsk
theorem HE.pairT {w0 w w1:World} {K:Nat→Prop} {jh bd j jx jt bd' j' jx':Nat} {o o':Hs} (n:HE w0 w K jh bd j jx o) (y:Below w.heap.size w w1) (n2:TE w0 w1 (fun k => k<w.heap.size) jt bd' j' jx' o'):HT w0 w1 K jh bd j jx o jt bd' j' jx' o':=by
 obtain ⟨P,a1,a2,a3,a4,a5⟩:=n
 obtain ⟨P',pl,px,b1,b2,bp,b3,b4,b5⟩:=n2
 have hlt:=a2.lt
 have hz:=y.size
 refine ⟨P,P',⟨a1.below y,a2.below y,a3,a4⟩,⟨b1,⟨pl,px,b2,bp⟩,b3,b4⟩,fun k e => (b5 k (a1.lt k e)).1,fun e => ?_,(b5 jh hlt).1,(b5 jh hlt).2.2,fun k e => ⟨(a5 k e).1,(b5 k (a5 k e).2.1).1,(a5 k e).2.2,(b5 k (a5 k e).2.1).2.2,by have:=(a5 k e).2.1;omega⟩⟩
 have:=a1.lt _ e
 exact (b5 jt this).2.2 rfl
theorem tw_begin {w0 w w1 w2:World} {P:Nat→Prop} {bd jt:Nat} {c:Nat} {id:Int} (hh:Po.HostOk id) (hw:Below w0.heap.size w0 w) (hd0:DA w P w1 bd (Dk.new c)) (hP:∀ k,P k→w.heap.size≤k∧k<w1.heap.size) (hjt:jt=w1.heap.size)
  (hw2:w2=w1.alloc (.cells #[.int .i64 id,.int .i64 0,.int .i64 0,.pointer (some ⟨bd,0,none⟩),.pointer none,.pointer none,.bool false] 115 (0,0))) :
  Calls Tryz.prog 58 #[.pointer (some ⟨jt,0,none⟩)] w2 fun e w3 => e=.returned (.int .i64 0)∧∃ j jx,TE w0 w3 (fun k => k<w.heap.size) jt bd j jx ⟨id,0,0,true,Dk.new c,⟨0,false,[]⟩,⟨id,0,0,noB,0,0⟩⟩∧Below w.heap.size w w3:=by
 have hd:=hd0.rebase hw
 have hb2:=Zb hw2
 have hk2:=Zk hw2 hjt
 have hd2:=hd.below hb2
 have hz1:=hd0.base.size
 have hz0:=hw.size
 have hB2:Below w.heap.size w w2:=hd0.base.trans (hb2.mono hz1)
 refine (tw_opens (id:=id) (now:=0) (refused:=0) hd2 hk2 (fun e => by have:=(hP _ e).2;omega) (by omega) (hd2.openNew rfl rfl) hh (Dk.new_load _)).mono ?_
 rintro e w3 ⟨rfl,j,jx,P3,hg3,hn3,hk3,hp3,hc3⟩
 have hb3:Below w.heap.size w w3:=hB2.trans (hc3.below hB2.size fun k hk e => by
  rcases e with e | e
  · have:=(hP _ e).1;omega
  omega)
 exact ⟨rfl,j,jx,⟨P3,_,_,hn3,hk3,fun _ => ⟨rfl,rfl⟩,hp3,by omega,fun k hk => ⟨fun e => by
  rcases hg3 k e with e | e
  · have:=(hP _ e).1;omega
  have:=hB2.size;omega,Nat.lt_of_lt_of_le hk hb3.size,by omega⟩⟩,hb3⟩
end Go.Proofs.YtdacanghbepjpaaGreatDoor
