/- A host's log: its first segment leaves its row: the copy is walked. -/
import Derived.Test.YtdacanghbepjpaaGreatDoorHlR
import Derived.Lib.AppendZeros
namespace Go.Proofs.YtdacanghbepjpaaGreatDoor
set_option linter.unusedSimpArgs false
set_option linter.unusedVariables false
set_option maxRecDepth 100000
open Go.RowKit Go.Maps
open Dsk
section
variable {w0 w w':World} {X H S:Nat→Prop} {v lv u:Value} {d d':Dk} {j B:Nat} {h:Hl} {vs vr:List SegV} {l:List Sg} {s:SegV}
theorem RdRow.tail {α:Type} {row:α→List Value} {z:Nat} {g off n c:Nat} {a:α} {l:List α} (h:RdRow row z w (.slice (some ⟨g,off,none⟩) n c) (a::l)):RdRow row z w (.slice (some ⟨g,off+1*z,none⟩) (n-1) (c-1)) l:=by
 obtain ⟨x,c',e,hc,hx⟩:=h
 injection e with e1 e2 e3
 subst e1 e2 e3
 refine ⟨_,_,by rw [List.length_cons,Nat.add_sub_cancel],by rw [List.length_cons] at hc;omega,fun i hi => ?_⟩
 obtain ⟨b,off',e,hb,h1⟩:=hx (i+1) (by rw [List.length_cons];omega)
 cases e
 refine ⟨_,_,rfl,hb,fun k u hu => ?_⟩
 have:=h1 k u hu
 rw [show off+1*z+i*z+k=off+(i+1)*z+k by rw [Nat.one_mul,Nat.succ_mul];omega]
 exact this
theorem LogRows.oks (hr:LogRows B w lv vs l):∀ a∈vs,∀ y∈segRow a,y.oneCell'=true:=fun a ha y hy => by
 obtain ⟨i,hi,rfl⟩:=List.mem_iff_getElem.1 ha
 have hs:=hr.each i hi (hr.len ▸ hi)
 obtain ⟨x1,c1,e1⟩:=OwnRow.shape hs.spans
 have e2:∃ x2 n2 c2,vs[i].ev=.slice x2 n2 c2:=by
  rcases hs.ends.2 with ⟨e,_⟩ | ⟨g,cap,cur,e,_⟩
  · exact ⟨_,_,_,e⟩
  · exact ⟨_,_,_,e⟩
 obtain ⟨x2,n2,c2,e2⟩:=e2
 simp [segRow] at hy
 rcases hy with rfl | rfl | rfl
 · rfl
 · rw [e1];rfl
 · rw [e2];rfl
theorem HO.less (h0:HO w0 X H w v d j h lv (s::vr)) {a:Sg} {r:List Sg} (hl:h.l=a::r) (hown:OwnRow segRow 3 132 w' w.heap.size u vr) (hb:Below w.heap.size w w') :
  ∃ N,NewIn w (w'.setCell ⟨j,3,none⟩ u) N∧HO w0 (Plus X N) (Plus H N) (w'.setCell ⟨j,3,none⟩ u) v d j { h with l:=r } u vr∧HK X H w (w'.setCell ⟨j,3,none⟩ u):=by
 have hj:=h0.inH j (.inl rfl)
 have hjl:=h0.blk.lt
 have hc1:Chg (fun _ => False) w w':=Chg.of_below hb
 have hc2:Chg (fun k => k=j) w' (w'.setCell ⟨j,3,none⟩ u):=(Chg.refl (fun k => k=j) w').setCell (p:=⟨j,3,none⟩) (fun _ => rfl) _
 have hsz:(w'.setCell ⟨j,3,none⟩ u).heap.size=w'.heap.size:=by simp
 have hult:=hown.lt
 have hune:∀ k,u.ownBlock=some k→k≠j:=fun k hk e => by have:=(hult k hk).1;omega
 have hc:Chg (fun k => k=j) w (w'.setCell ⟨j,3,none⟩ u):=(Chg.mono hc1 fun k _ e => e.elim).trans hc2
 have hw0:w0.heap.size≤w.heap.size:=h0.live.size
 have hN:NewIn w (w'.setCell ⟨j,3,none⟩ u) fun k => u.ownBlock=some k:=fun k hk => ⟨(hult k hk).1,by rw [hsz];exact (hult k hk).2⟩
 have hlen:vr.length=r.length:=by have:=h0.rows.len;rw [hl] at this;simpa using this
 refine ⟨fun k => u.ownBlock=some k,hN,⟨h0.live_plus hc (fun k e => by rw [e];exact hj) hN,(h0.blk.below hb).set 3 _,⟨(hown.base hw0).chg hc2 hune,hlen,fun i hi hi' => ?_,fun i k hi hk hne b hb1 hb2 => ?_⟩,fun k hk => ?_,fun k hk => hk.elim (fun e => .inl (h0.sub k e)) .inr,fun k hk => ?_⟩,Chg.mono hc fun k _ e => .inr (by rw [e];exact hj)⟩
 · have h1:=h0.rows.each (i+1) (by simpa using hi) (by rw [hl];simpa using hi')
   simp only [hl,List.getElem_cons_succ] at h1
   exact h1.chg hc fun k hk e => h0.ne k (.inr (mem_blks.2 ⟨i+1,by simpa using hi,mem_segBlks.1 hk⟩)) e
 · exact h0.rows.apart (i+1) (k+1) (by simpa using hi) (by simpa using hk) (by omega) b hb1 hb2
 · rcases hk with rfl | hk | hk
   · exact .inl hj
   · exact .inr hk
   · refine .inl (h0.inH k (.inr (.inr ?_)))
     obtain ⟨i,hi,hk⟩:=mem_blks.1 hk
     exact mem_blks.2 ⟨i+1,by simpa using hi,hk⟩
 · rcases hk with hk | hk
   · exact ⟨(h0.new k hk).1,Nat.lt_of_lt_of_le (h0.new k hk).2 hc.size⟩
   · exact ⟨Nat.le_trans hw0 (hult k hk).1,by rw [hsz];exact (hult k hk).2⟩
set_option maxHeartbeats 2000000 in
theorem hclone_any {b off n c:Nat} (hx:RdRow segRow 3 w (.slice (some ⟨b,off,none⟩) n c) vs) (hl:vs.length≤1000000) (hone:∀ a∈vs,∀ y∈segRow a,y.oneCell'=true) :
  Calls Tryz.prog 147 #[.slice (some ⟨b,off,none⟩) n c] w fun e w' => ∃ u,e=.returned u∧OwnRow segRow 3 132 w' w.heap.size u vs∧Below w.heap.size w w':=by
 have hba:Below w.heap.size w (w.alloc (.cells #[] 132 (0,0))):=(Below.refl _ _).alloc (Nat.le_refl _) _
 have hown0:OwnRow segRow 3 132 (w.alloc (.cells #[] 132 (0,0))) w.heap.size (.slice (some ⟨w.heap.size,0,none⟩) 0 0) ([]:List SegV):=World.ownsRow_made w #[] 0 (Nat.le_refl _) (Nat.zero_le _) rfl
 obtain ⟨u,w1,e1,e2,e3,_⟩:=run_append_rows (ty:=134) segRow_len (by omega) under_segs Tryz.info_seg rfl (by omega) hown0 _ vs (hx.below hba) hone (by simp;omega) (by simp;omega) hba.size
 rw [List.nil_append] at e2
 have hbe:Below w.heap.size w w1:=hba.grown e3 (by simp) (by intro k hk;simp [Value.ownBlock] at hk;omega)
 have Hrun:=Lib.hid e1
 have HP:=Lib.hid (And.intro e2 hbe)
 have q22:∀ (w:World) (a:Option Addr) (n c n' c':Nat),(binOp .eql 134 (.slice a n c) (.slice none n' c')).run Tryz.prog w=.ok (.bool a.isNone) w:=fun w a n c n' c' => Lib.run_eql_slice_nil w _ _ a n c n' c' under_segs
 clear hx hl hone hba hown0 e1 e2 e3 hbe
 go_enter Tryz.func147,Tryz.ntmps147
 go_wp2_with (at_builtin;refine Lib.wpList_append_run _ rfl _ _ _ _ rfl _ _ rfl rfl _ _ (Hrun.out) ?_)
 go_wp2_with fail
 go_ret
 exact ⟨_,rfl,HP.out.1,HP.out.2⟩
end
end Go.Proofs.YtdacanghbepjpaaGreatDoor
