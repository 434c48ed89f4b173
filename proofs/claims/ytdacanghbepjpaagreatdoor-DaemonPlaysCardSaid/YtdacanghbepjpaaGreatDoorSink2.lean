/- A region that draws its order, with a store into a cell that it reads: T holds of every world in it, S of those before operation n. Whatever reads by T may be taken first; so may what reads by S, if n waits for it. -/
import Derived.Deep.RegionHeld3
import Derived.StillTail
namespace Go
set_option linter.unusedSimpArgs false
set_option linter.unusedVariables false
section
variable {P:Program} {ops:Array Oper} {Q:Exit→Act→World→Prop} {md:Region.Mode} {T S:World→Prop} {n:Nat}
def wpTwo (P:Program) (md:Region.Mode) (ops:Array Oper) (Q:Exit→Act→World→Prop) (T S:World→Prop) (n:Nat):Nat→Array Bool→Act→World→Prop
 | 0,listed,a,w => Region.ready md ops listed=[]∧Q .normal a w
 | f + 1, listed, a, w => (Region.ready md ops listed = [] → Q .normal a w) ∧
     ∀ i∈Region.ready md ops listed,wpOp P ops Q i (fun a' w' => (T w'∧(listed.getD n true=false→i≠n→S w'))∧wpTwo P md ops Q T S n f (listed.setIfInBounds i true) a' w') a w
theorem wpAny_of_two:∀ (f:Nat) (listed:Array Bool) (a:Act) (w:World),wpTwo P md ops Q T S n f listed a w→wpAny P md ops Q f listed a w
 | 0,_,_,_,h => h
 | f+1,_,_,_,h => ⟨h.1,fun i hi => wpOp_mono (fun a' w' h' => wpAny_of_two f _ a' w' h'.2) (h.2 i hi)⟩
theorem two_not {i:Nat} {listed:Array Bool} (h:listed.getD i true=false):listed.getD i false=false:=getD_both h
theorem two_late :
  ∀ (f:Nat) (i:Nat) (oi:Oper) (v:Value) (_:ops[i]?=some oi) (_:∀ (j:Nat) (o:Oper) cs b,ops[j]?=some o→o.op≠.select cs b)
   (_:∀ c a w,Q (.panic c) (a.put oi.dst v) w→Q (.panic c) a w) (_:i≠n) (listed:Array Bool) (a:Act) (w:World),
   (∀ j oj,ops[j]?=some oj→j≠i→listed.getD j true=false→(∀ e∈oj.after,Region.binds md e=true→e.on≠i)→oi.apart ops oj=true) →
   i∈Region.ready md ops listed→YieldsIf P ops T oi v a→T w→(listed.getD n true=false→S w) →
   wpTwo P md ops Q T S n f (listed.setIfInBounds i true) (a.put oi.dst v) w→wpTwo P md ops Q T S n (f+1) listed a w:=by
 intro f i oi v hi hsel hQ hin
 induction f with
 | zero =>
  intro listed a w _ hr hy hT hS H
  refine ⟨fun e => (by rw [e] at hr;cases hr),fun j hj => ?_⟩
  by_cases hji:j=i
  · subst hji;exact hy.wpOp hi hT ⟨⟨hT,fun h _ => hS h⟩,H⟩
  · have h0:=ready_mono hj hji
    rw [H.1] at h0
    cases h0
 | succ f ih =>
  intro listed a w hfree hr hy hT hS H
  refine ⟨fun e => (by rw [e] at hr;cases hr),fun j hj => ?_⟩
  by_cases hji:j=i
  · subst hji;exact hy.wpOp hi hT ⟨⟨hT,fun h _ => hS h⟩,H⟩
  · obtain ⟨hjun,oj,hoj,hall⟩:=mem_ready.1 hj
    have hin0:=two_not (mem_ready.1 hr).1
    have hnot:∀ e∈oj.after,Region.binds md e=true→e.on≠i:=fun e he hb heq => by
     have h1:=hall e he hb
     rw [heq,hin0] at h1
     cases h1
    have h2:=wpOp_putIf hoj (hfree j oj hoj hji hjun hnot) (fun cs b => hsel i oi cs b hi) (fun cs b => hsel j oj cs b hoj) hQ hy (H.2 j (ready_mono hj hji))
    have hfree':∀ k ok,ops[k]?=some ok→k≠i→(listed.setIfInBounds j true).getD k true=false→(∀ e∈ok.after,Region.binds md e=true→e.on≠i)→oi.apart ops ok=true:=fun k ok hk hki hun hno => by
     refine hfree k ok hk hki ?_ hno
     by_cases hjk:j=k
     · subst hjk;exact hjun
     · rw [getD_set_ne true hjk] at hun;exact hun
    refine wpOp_mono (fun a' w' h3 => ?_) h2
    have hS':listed.getD n true=false→j≠n→S w':=fun hl hj2 => h3.2.1.2 (by rw [getD_set_ne true hin];exact hl) hj2
    refine ⟨⟨h3.2.1.1,hS'⟩,ih (listed.setIfInBounds j true) a' w' hfree' (ready_mono hr (Ne.symm hji)) h3.1 h3.2.1.1 (fun hl => ?_) ?_⟩
    · by_cases hjn:j=n
      · subst hjn
        have:(listed.setIfInBounds j true).getD j true=true:=by
         unfold Array.getD
         split
         · simp
         · rfl
        rw [this] at hl;cases hl
      · rw [getD_set_ne true hjn] at hl
        exact hS' hl hjn
    · rw [Array.setIfInBounds_comm _ _ hji]
      exact h3.2.2
theorem two_first :
  ∀ (f:Nat) (i:Nat) (oi:Oper) (v:Value) (_:ops[i]?=some oi) (_:∀ (j:Nat) (o:Oper) cs b,ops[j]?=some o→o.op≠.select cs b)
   (_:∀ c a w,Q (.panic c) (a.put oi.dst v) w→Q (.panic c) a w) (_:i≠n) (_:Region.waitsFor md ops n i=true) (listed:Array Bool) (a:Act) (w:World),
   (∀ j oj,ops[j]?=some oj→j≠i→listed.getD j true=false→(∀ e∈oj.after,Region.binds md e=true→e.on≠i)→oi.apart ops oj=true) →
   i∈Region.ready md ops listed→YieldsIf P ops S oi v a→T w→listed.getD n true=false→S w →
   wpTwo P md ops Q T S n f (listed.setIfInBounds i true) (a.put oi.dst v) w→wpTwo P md ops Q T S n (f+1) listed a w:=by
 intro f i oi v hi hsel hQ hin hwt
 induction f with
 | zero =>
  intro listed a w _ hr hy hT hl hS H
  refine ⟨fun e => (by rw [e] at hr;cases hr),fun j hj => ?_⟩
  by_cases hji:j=i
  · subst hji;exact hy.wpOp hi hS ⟨⟨hT,fun _ _ => hS⟩,H⟩
  · have h0:=ready_mono hj hji
    rw [H.1] at h0
    cases h0
 | succ f ih =>
  intro listed a w hfree hr hy hT hl hS H
  refine ⟨fun e => (by rw [e] at hr;cases hr),fun j hj => ?_⟩
  by_cases hji:j=i
  · subst hji;exact hy.wpOp hi hS ⟨⟨hT,fun _ _ => hS⟩,H⟩
  · obtain ⟨hjun,oj,hoj,hall⟩:=mem_ready.1 hj
    have hin0:=two_not (mem_ready.1 hr).1
    have hnot:∀ e∈oj.after,Region.binds md e=true→e.on≠i:=fun e he hb heq => by
     have h1:=hall e he hb
     rw [heq,hin0] at h1
     cases h1
    have hjn:j≠n:=fun e => by
     subst e
     obtain ⟨ok,hok,e2,he2,hb2,ho2⟩:=Region.waitsFor_spec hwt
     rw [hoj] at hok
     cases hok
     exact hnot e2 he2 hb2 ho2
    have h2:=wpOp_putIf hoj (hfree j oj hoj hji hjun hnot) (fun cs b => hsel i oi cs b hi) (fun cs b => hsel j oj cs b hoj) hQ hy (H.2 j (ready_mono hj hji))
    have hfree':∀ k ok,ops[k]?=some ok→k≠i→(listed.setIfInBounds j true).getD k true=false→(∀ e∈ok.after,Region.binds md e=true→e.on≠i)→oi.apart ops ok=true:=fun k ok hk hki hun hno => by
     refine hfree k ok hk hki ?_ hno
     by_cases hjk:j=k
     · subst hjk;exact hjun
     · rw [getD_set_ne true hjk] at hun;exact hun
    refine wpOp_mono (fun a' w' h3 => ?_) h2
    have hS':S w':=h3.2.1.2 (by rw [getD_set_ne true hin];exact hl) hjn
    refine ⟨⟨h3.2.1.1,fun _ _ => hS'⟩,ih (listed.setIfInBounds j true) a' w' hfree' (ready_mono hr (Ne.symm hji)) h3.1 h3.2.1.1 (by rw [getD_set_ne true hjn];exact hl) hS' ?_⟩
    rw [Array.setIfInBounds_comm _ _ hji]
    exact h3.2.2
theorem two_take (i:Nat) (t:Option Tmp) {oi:Oper} {v:Value} {f:Nat} {listed:Array Bool} {a:Act} {w:World} (hi:ops[i]?=some oi) (ht:oi.dst=t)
  (hs:Region.noSelect ops=true) (hf:Region.free md ops listed i=true) (hr:(Region.ready md ops listed).contains i=true) (hwt:Region.waitsFor md ops n i=true) (hin:i≠n) (hl:listed.getD n true=false)
  (hQ:∀ c a w,Q (.panic c) (a.put oi.dst v) w→Q (.panic c) a w) (hy:YieldsIf P ops S oi v a) (hT:T w) (hS:S w)
  (h:wpTwo P md ops Q T S n f (listed.setIfInBounds i true) (a.put t v) w):wpTwo P md ops Q T S n (f+1) listed a w:=by
 subst ht
 exact two_first f i oi v hi (Region.noSelect_spec hs) hQ hin hwt listed a w (Region.free_spec hi hf) (by simpa using hr) hy hT hl hS h
theorem two_takeT (i:Nat) (t:Option Tmp) {oi:Oper} {v:Value} {f:Nat} {listed:Array Bool} {a:Act} {w:World} (hi:ops[i]?=some oi) (ht:oi.dst=t)
  (hs:Region.noSelect ops=true) (hf:Region.free md ops listed i=true) (hr:(Region.ready md ops listed).contains i=true) (hin:i≠n)
  (hQ:∀ c a w,Q (.panic c) (a.put oi.dst v) w→Q (.panic c) a w) (hy:YieldsIf P ops T oi v a) (hT:T w) (hS:S w)
  (h:wpTwo P md ops Q T S n f (listed.setIfInBounds i true) (a.put t v) w):wpTwo P md ops Q T S n (f+1) listed a w:=by
 subst ht
 exact two_late f i oi v hi (Region.noSelect_spec hs) hQ hin listed a w (Region.free_spec hi hf) (by simpa using hr) hy hT (fun _ => hS) h
theorem tkT (i t:Nat) {oi:Oper} {v:Value} {f:Nat} {listed:Array Bool} {a:Act} {w:World} (hi:ops[i]?=some oi) (ht:oi.dst=some t)
  (hy:YieldsIf P ops T oi v a) (hT:T w) (hS:S w) (h:wpTwo P md ops Q T S n f (listed.setIfInBounds i true) (a.put (some t) v) w)
  (hs:Region.noSelect ops=true:=by kernel_rfl) (hf:Region.free md ops listed i=true:=by kernel_rfl) (hr:(Region.ready md ops listed).contains i=true:=by kernel_rfl) (hin:i≠n:=by decide)
  (hQ:∀ c a w,Q (.panic c) (a.put oi.dst v) w→Q (.panic c) a w:=by exact fun _ _ _ h => h):wpTwo P md ops Q T S n (f+1) listed a w :=
 two_takeT i (some t) hi ht hs hf hr hin hQ hy hT hS h
theorem tk (i t:Nat) {oi:Oper} {v:Value} {f:Nat} {listed:Array Bool} {a:Act} {w:World} (hT:T w) (hS:S w) (h:wpTwo P md ops Q T S n f (listed.setIfInBounds i true) (a.put (some t) v) w)
  (hi:ops[i]?=some oi:=by exact rfl) (ht:oi.dst=some t:=by exact rfl) (hy:YieldsIf P ops T oi v a:=by (refine Or.inl ⟨by rfl,?_⟩;intro w' hT';go_simp;(try with_reducible rfl)))
  (hs:Region.noSelect ops=true:=by kernel_rfl) (hf:Region.free md ops listed i=true:=by kernel_rfl) (hr:(Region.ready md ops listed).contains i=true:=by kernel_rfl) (hin:i≠n:=by decide)
  (hQ:∀ c a w,Q (.panic c) (a.put oi.dst v) w→Q (.panic c) a w:=by exact fun _ _ _ h => h):wpTwo P md ops Q T S n (f+1) listed a w :=
 two_takeT i (some t) hi ht hs hf hr hin hQ hy hT hS h
theorem scons {α:Type}:(∀ (a b:α) (l:List α),List.set (a::l) 0 b=b::l)∧(∀ (a b:α) (l:List α) (k:Nat),List.set (a::l) (k+1) b=a::List.set l k b):=⟨fun _ _ _ => rfl,fun _ _ _ _ => rfl⟩
theorem two_one (i:Nat) {o:Oper} {f:Nat} {listed:Array Bool} {a:Act} {w:World} (ho:ops[i]?=some o) (hr:Region.ready md ops listed=[i])
  (h:∀ K:Act→World→Prop,Shut (∀ a w,T w→(listed.getD n true=false→i≠n→S w)→wpTwo P md ops Q T S n f (listed.setIfInBounds i true) a w→K a w)→if Region.wanted o (yielded ops a.tmps)=true then Oper.wp P o a w K Q else K (a.put o.dst undef) w) :
  wpTwo P md ops Q T S n (f+1) listed a w:=by
 refine ⟨fun e => (by rw [hr] at e;cases e),fun j hj => ?_⟩
 rw [hr,List.mem_singleton] at hj
 subst hj
 exact wpOp_step ho fun K hK => h K fun a w h0 h1 h2 => hK a w ⟨⟨h0,h1⟩,h2⟩
theorem two_two (i j:Nat) {o p:Oper} {f:Nat} {listed:Array Bool} {a:Act} {w:World} (ho:ops[i]?=some o) (hp:ops[j]?=some p) (hr:Region.ready md ops listed=[i,j])
  (h:∀ K:Act→World→Prop,Shut (∀ a w,T w→(listed.getD n true=false→i≠n→S w)→wpTwo P md ops Q T S n f (listed.setIfInBounds i true) a w→K a w)→if Region.wanted o (yielded ops a.tmps)=true then Oper.wp P o a w K Q else K (a.put o.dst undef) w)
  (h':∀ K:Act→World→Prop,Shut (∀ a w,T w→(listed.getD n true=false→j≠n→S w)→wpTwo P md ops Q T S n f (listed.setIfInBounds j true) a w→K a w)→if Region.wanted p (yielded ops a.tmps)=true then Oper.wp P p a w K Q else K (a.put p.dst undef) w) :
  wpTwo P md ops Q T S n (f+1) listed a w:=by
 refine ⟨fun e => (by rw [hr] at e;cases e),fun k hk => ?_⟩
 rw [hr,List.mem_cons,List.mem_singleton] at hk
 rcases hk with rfl | rfl
 · exact wpOp_step ho fun K hK => h K fun a w h0 h1 h2 => hK a w ⟨⟨h0,h1⟩,h2⟩
 · exact wpOp_step hp fun K hK => h' K fun a w h0 h1 h2 => hK a w ⟨⟨h0,h1⟩,h2⟩
theorem two_done {listed:Array Bool} {a:Act} {w:World} (hr:Region.ready md ops listed=[]) (h:Q .normal a w):∀ f,wpTwo P md ops Q T S n f listed a w
 | 0 => ⟨hr,h⟩
 | _+1 => ⟨fun _ => h,by rw [hr];simp⟩
theorem wp_region_two {id:Nat} {a:Act} {w:World} (hm:P.follows .mixedOrders=true)
  (h:wpTwo P .any ops Q T S n ops.size (Array.replicate ops.size false) a w.drew):(Code.region id ops true).wp P Q a w :=
 wp_region_any hm (wpAny_of_two _ _ _ _ h)
end
theorem xq:(∀ (a:Act) (t:Nat) (v:Value),a.put (some t) v={a with tmps:=a.tmps.setIfInBounds t v})∧(∀ (a:Act) (v:Value),a.put none v=a)∧(∀ (l:List Value) (i:Nat) (a:Value),l.toArray.setIfInBounds i a=(l.set i a).toArray)∧(∀ (a b:Value) (l:List Value),List.set (a::l) 0 b=b::l)∧(∀ (a b:Value) (l:List Value) (k:Nat),List.set (a::l) (k+1) b=a::List.set l k b):=⟨fun _ _ _ => rfl,fun _ _ => rfl,fun _ _ _ => List.setIfInBounds_toArray _ _ _,fun _ _ _ => rfl,fun _ _ _ _ => rfl⟩
end Go
