/- Texts put together and cut to what is used: Lex. -/
import Derived.Test.YtioigihakjlopaaGreatVB01
namespace Go.Proofs.YtioigihakjlopaaGreat
set_option linter.unusedVariables false
set_option linter.unusedSimpArgs false
section
open Go.RowKit
section
variable {P:Program} {ops:Array Oper} {Q:Exit→Act→World→Prop} {md:Region.Mode} {R:World→World→Prop}
def YieldsR (P:Program) (ops:Array Oper) (R:World→World→Prop) (o:Oper) (v:Value) (a:Act) (w:World):Prop:=
 (Region.wanted o (yielded ops a.tmps)=true∧∀w',R w w'→(execOp a.eval o).run P w'= .ok (.value v) w')∨
 (Region.wanted o (yielded ops a.tmps)=false∧v=undef)
theorem YieldsR.wpOp {i:Nat} {o:Oper} {v:Value} {a:Act} {w:World} (hi:ops[i]? =some o) (hy:YieldsR P ops R o v a w)
  {K:Act→World→Prop} (hS:R w w) (h:K (a.put o.dst v) w):wpOp P ops Q i K a w:=by
 unfold Go.wpOp
 simp only [hi]
 rcases hy with ⟨hw,hv⟩|⟨hw,rfl⟩
 ·simp only [hw,if_true,Oper.wp,hv w hS,Oper.upon];exact .inl h
 ·simp only [hw,Bool.false_eq_true,if_false];exact h
theorem YieldsR.of_same {o:Oper} {v:Value} {a a':Act} {w:World} (hy:YieldsR P ops R o v a w) (he:execOp a'.eval o=execOp a.eval o)
  (hw:Region.wanted o (yielded ops a'.tmps)=Region.wanted o (yielded ops a.tmps)):YieldsR P ops R o v a' w:=by
 unfold YieldsR at*
 rw [he,hw]
 exact hy
theorem YieldsR.later (ht:∀x y z,R x y→R y z→R x z) {o:Oper} {v:Value} {a:Act} {w w':World} (hy:YieldsR P ops R o v a w) (hR:R w w'):YieldsR P ops R o v a w':=
 hy.imp (fun ⟨h1,h2⟩=>⟨h1,fun w2 h=>h2 w2 (ht _ _ _ hR h)⟩) id
theorem wpOp_putR {j:Nat} {oi oj:Oper} {v:Value} (hj:ops[j]? =some oj) (hap:oi.apart ops oj=true)
  (hsi:∀cs b,oi.op≠ .select cs b) (hsj:∀cs b,oj.op≠ .select cs b)
  (hQ:∀c a w,Q (.panic c) (a.put oi.dst v) w→Q (.panic c) a w) {K:Act→World→Prop} {a:Act} {w:World}
  (hy:YieldsR P ops R oi v a w) (h:wpOp P ops Q j K (a.put oi.dst v) w):
  wpOp P ops Q j (fun a' w'=>YieldsR P ops R oi v a' w∧K (a'.put oi.dst v) w') a w:=by
 obtain ⟨h1,h2,h3⟩:=Oper.apart_spec hap
 have keep:∀(a:Act),YieldsR P ops R oi v a w→∀u,YieldsR P ops R oi v (a.put oj.dst u) w:=fun a hy u=>
  hy.of_same (execOp_put oi hsi a oj.dst u h3) (wanted_put oi a oj.dst u h3)
 have keepD:∀d,YieldsR P ops R oi v {a with defers:=d::a.defers} w:=fun d=>hy.of_same rfl rfl
 unfold wpOp at*
 simp only [hj] at*
 rw [wanted_put oj a oi.dst v h1] at h
 split
 ·rename_i hw
  simp only [hw,if_true] at h
  rcases h with h|⟨hasks,hlets⟩
  case inr=>exact .inr ⟨by unfold Oper.asks at*;rw [execOp_put oj hsj a oi.dst v h1] at hasks;exact hasks,hlets⟩
  refine .inl ?_
  unfold Oper.wp at*
  rw [execOp_put oj hsj a oi.dst v h1] at h
  generalize (execOp a.eval oj).run P w=r at*
  cases r with
  |ok n w'=>
   cases n<;>simp only [Oper.upon] at h⊢
   case value u=>exact ⟨keep a hy u,by rw [←Act.put_comm a v u h2];exact h⟩
   case skip=>exact ⟨keep a hy _,by rw [←Act.put_comm a v undef h2];exact h⟩
   case defer d=>
    refine ⟨keep _ (keepD d) _,?_⟩
    rw [←Act.put_comm _ v undef h2,←Act.put_defers]
    exact h
   case enter f args=>
    refine Calls.mono h fun e w'' he=> ?_
    cases e with
    |returned u=>exact ⟨keep a hy u,by rw [←Act.put_comm a v u h2];exact he⟩
    |panicked c=>exact hQ _ _ _ he
    |outgrown=>exact he
   case row row args=>exact Rows.mono h fun u w'' he=>⟨keep a hy u,by rw [←Act.put_comm a v u h2];exact he⟩
  |halt x w'=>
   cases x<;>simp only [Oper.upon] at h⊢
   case panic u=>exact hQ _ _ _ h
 ·rename_i hw
  simp only [hw] at h
  exact ⟨keep a hy _,by rw [←Act.put_comm a v undef h2];exact h⟩
def wpAnyR (P:Program) (md:Region.Mode) (ops:Array Oper) (Q:Exit→Act→World→Prop) (R:World→World→Prop):Nat→Array Bool→Act→World→Prop
 |0,listed,a,w=>Region.ready md ops listed=[]∧Q .normal a w
 |fuel+1,listed,a,w=>
  (Region.ready md ops listed=[]→Q .normal a w)∧
  ∀i∈Region.ready md ops listed,wpOp P ops Q i (fun a' w'=>R w w'∧wpAnyR P md ops Q R fuel (listed.setIfInBounds i true) a' w') a w
theorem wpAny_of_R:∀(fuel:Nat) (listed:Array Bool) (a:Act) (w:World),wpAnyR P md ops Q R fuel listed a w→wpAny P md ops Q fuel listed a w
 |0,_,_,_,h=>h
 |fuel+1,_,_,_,h=>⟨h.1,fun i hi=>wpOp_mono (fun a' w' h'=>wpAny_of_R fuel _ a' w' h'.2) (h.2 i hi)⟩
theorem wpAnyR_first (hrefl:∀w,R w w) (ht:∀x y z,R x y→R y z→R x z) {i:Nat} {oi:Oper} {v:Value} (hi:ops[i]? =some oi) (hsel:∀(j:Nat) (o:Oper) cs b,ops[j]? =some o→o.op≠ .select cs b)
  (hQ:∀c a w,Q (.panic c) (a.put oi.dst v) w→Q (.panic c) a w):
  ∀(fuel:Nat) (listed:Array Bool) (a:Act) (w:World),
   (∀j oj,ops[j]? =some oj→j≠i→listed.getD j true=false→(∀e∈oj.after,Region.binds md e=true→e.on≠i)→oi.apart ops oj=true)→
   i∈Region.ready md ops listed→YieldsR P ops R oi v a w→
   wpAnyR P md ops Q R fuel (listed.setIfInBounds i true) (a.put oi.dst v) w→wpAnyR P md ops Q R (fuel+1) listed a w:=by
 intro fuel
 induction fuel with
 |zero=>
  intro listed a w _ hr hy H
  refine ⟨fun h=>(by rw [h] at hr;cases hr),fun j hj=> ?_⟩
  by_cases hji:j=i
  ·subst hji;exact hy.wpOp hi (hrefl w) ⟨hrefl w,H⟩
  ·have:=ready_mono hj hji
   rw [H.1] at this
   cases this
 |succ fuel ih=>
  intro listed a w hfree hr hy H
  refine ⟨fun h=>(by rw [h] at hr;cases hr),fun j hj=> ?_⟩
  by_cases hji:j=i
  ·subst hji;exact hy.wpOp hi (hrefl w) ⟨hrefl w,H⟩
  ·have h1:=H.2 j (ready_mono hj hji)
   obtain ⟨hjun,oj,hoj,hall⟩:=mem_ready.1 hj
   have hnot:∀e∈oj.after,Region.binds md e=true→e.on≠i:=fun e he hb heq=>by
    have h1:=hall e he hb
    have h0:=(mem_ready.1 hr).1
    rw [heq] at h1
    rcases Nat.lt_or_ge i listed.size with h'|h'
    ·simp [h'] at h0 h1;rw [h0] at h1;cases h1
    ·simp [Array.getElem?_eq_none h'] at h1
   have h2:=wpOp_putR hoj (hfree j oj hoj hji hjun hnot) (fun cs b=>hsel i oi cs b hi) (fun cs b=>hsel j oj cs b hoj) hQ hy h1
   have hfree':∀k ok,ops[k]? =some ok→k≠i→(listed.setIfInBounds j true).getD k true=false→
     (∀e∈ok.after,Region.binds md e=true→e.on≠i)→oi.apart ops ok=true:=fun k ok hk hki hun hno=>by
    refine hfree k ok hk hki ?_ hno
    by_cases hjk:j=k
    ·subst hjk;exact hjun
    ·rw [getD_set_ne true hjk] at hun;exact hun
   refine wpOp_mono (fun a' w' h3=>⟨h3.2.1,ih (listed.setIfInBounds j true) a' w' hfree' (ready_mono hr (Ne.symm hji)) (h3.1.later ht h3.2.1) ?_⟩) h2
   rw [Array.setIfInBounds_comm _ _ hji]
   exact h3.2.2
def loudOp:Op→Bool
 | .alloc _| .box .. | .buildSlice .. | .insert .. | .store .. | .makeMap .. | .makeChan .. | .makeSlice .. | .makeFunc .. | .mapUpdate .. | .mapEntry .. | .entryStore .. | .range .. | .next .. | .panic _| .send .. | .recv .. | .select .. | .go _| .defer _=>true
 | .call {callee:= .builtin .len,..}=>false
 | .call {callee:= .builtin .cap,..}=>false
 | .call {callee:= .builtin .min,..}=>false
 | .call {callee:= .builtin .max,..}=>false
 | .call _=>true
 |_=>false
def ordR (md:Region.Mode) (ops:Array Oper):List Nat→Array Bool→Bool
 | [],listed=>(Region.ready md ops listed).isEmpty
 |i::r,listed=>(if ((ops[i]?).map fun o=>loudOp o.op).getD true then Region.ready md ops listed==[i] else (Region.ready md ops listed).contains i&&Region.free md ops listed i)&&ordR md ops r (listed.setIfInBounds i true)
def lexR (ops:Array Oper) (order:List Nat):Bool:=Region.noSelect ops&&order.length==ops.size&&ordR .any ops order (Array.replicate ops.size false)
def wpLexR (P:Program) (ops:Array Oper) (Q:Exit→Act→World→Prop) (R:World→World→Prop):List Nat→Act→World→Prop
 | [],a,w=>Q .normal a w
 |i::rest,a,w=>
  match ops[i]? with
  |none=>False
  |some o=>
   if Region.wanted o (yielded ops a.tmps) then
    if loudOp o.op then o.wp P a w (fun a' w'=>R w w'∧wpLexR P ops Q R rest a' w') Q
    else ∃v,(∀w',R w w'→(execOp a.eval o).run P w'= .ok (.value v) w')∧wpLexR P ops Q R rest (a.put o.dst v) w
   else wpLexR P ops Q R rest (a.put o.dst undef) w
theorem wpAnyR_lex (hrefl:∀w,R w w) (ht:∀x y z,R x y→R y z→R x z) (hs:Region.noSelect ops=true)
  (hQ:∀c a d v w,Q (.panic c) (a.put d v) w→Q (.panic c) a w):∀(l:List Nat) (listed:Array Bool) (a:Act) (w:World),
  ordR md ops l listed=true→wpLexR P ops Q R l a w→wpAnyR P md ops Q R l.length listed a w
 | [],_,_,_,hB,h=>⟨by simpa [ordR] using hB,h⟩
 |k::l,listed,a,w,hB,h=>by
  cases h0:ops[k]? with
  |none=>simp only [wpLexR,h0] at h
  |some o=>
   simp only [ordR,h0,Option.map_some,Option.getD_some,Bool.and_eq_true] at hB
   obtain ⟨hr,hB'⟩:=hB
   simp only [List.length_cons]
   simp only [wpLexR,h0] at h
   by_cases hloud:loudOp o.op=true
   ·rw [if_pos hloud] at hr
    have hr':Region.ready md ops listed=[k]:=by simpa using hr
    refine ⟨fun h=>(by rw [h] at hr';cases hr'),fun i hi=> ?_⟩
    rw [hr'] at hi
    obtain rfl:=List.mem_singleton.1 hi
    unfold wpOp
    simp only [h0]
    split
    ·rename_i hw
     rw [if_pos hw,if_pos hloud] at h
     exact .inl (Oper.wp_mono (fun a' w' h3=>⟨h3.1,wpAnyR_lex hrefl ht hs hQ l _ a' w' hB' h3.2⟩) h)
    ·rename_i hw
     rw [if_neg hw] at h
     exact ⟨hrefl w,wpAnyR_lex hrefl ht hs hQ l _ _ w hB' h⟩
   ·rw [if_neg hloud] at hr
    simp only [Bool.and_eq_true] at hr
    obtain ⟨hr1,hf⟩:=hr
    have hy:∃v,YieldsR P ops R o v a w∧wpLexR P ops Q R l (a.put o.dst v) w:=by
     by_cases hw:Region.wanted o (yielded ops a.tmps)=true
     ·rw [if_pos hw,if_neg hloud] at h
      obtain ⟨v,h1,h2⟩:=h
      exact ⟨v,.inl ⟨hw,h1⟩,h2⟩
     ·rw [if_neg hw] at h
      exact ⟨undef,.inr ⟨by simpa using hw,rfl⟩,h⟩
    obtain ⟨v,hy,hK⟩:=hy
    exact wpAnyR_first hrefl ht h0 (Region.noSelect_spec hs) (fun c a w=>hQ c a _ _ w) l.length listed a w (Region.free_spec h0 hf) (by simpa using hr1) hy
     (wpAnyR_lex hrefl ht hs hQ l _ _ w hB' hK)
theorem wp_region_lexR {id:Nat} {a:Act} {w:World} (order:List Nat) (hrefl:∀w,R w w) (ht:∀x y z,R x y→R y z→R x z) (hm:P.follows .mixedOrders=true) (hB:lexR ops order=true)
  (hQ:∀c a d v w,Q (.panic c) (a.put d v) w→Q (.panic c) a w)
  (h:wpLexR P ops Q R order a w.drew):(Code.region id ops true).wp P Q a w:=by
 simp only [lexR,Bool.and_eq_true] at hB
 refine wp_region_any hm (wpAny_of_R _ _ _ _ (R:=R) ?_)
 have:=wpAnyR_lex (R:=R) (md:= .any) hrefl ht hB.1.1 hQ order (Array.replicate ops.size false) a w.drew hB.2 h
 rwa [show order.length=ops.size by simpa using hB.1.2] at this
end
def isStoreO (o:Oper):Bool:=match o.op with
 | .store .. =>true
 | .mapUpdate .. =>true
 |_=>false
def wildO (m:Bool) (o:Oper):Bool:=m&&isStoreO o
def wildAt (m:Bool) (ops:Array Oper) (i:Nat):Bool:=((ops[i]?).map (wildO m)).getD false
def depO (md:Region.Mode) (ops:Array Oper):Nat→Nat→Nat→Bool
 |0,_,_=>false
 |f+1,j,i=>match ops[j]? with
  |none=>false
  |some o=>o.after.any fun e=>Region.binds md e&&(e.on==i||depO md ops f e.on i)
def wildFree (m:Bool) (md:Region.Mode) (ops:Array Oper) (listed:Array Bool) (i:Nat):Bool:=
 (List.range ops.size).all fun j=>j==i||listed.getD j true||(match ops[j]? with
  |none=>true
  |some o=> !wildO m o||depO md ops ops.size j i)
def Closed (md:Region.Mode) (ops:Array Oper) (listed:Array Bool):Prop:=
 ∀(k:Nat) (o:Oper),ops[k]? =some o→listed.getD k false=true→∀e∈o.after,Region.binds md e=true→listed.getD e.on false=true
theorem Closed.none (md:Region.Mode) (ops:Array Oper) (n:Nat):Closed md ops (Array.replicate n false):=by
 intro k o _ h
 by_cases hk:k<n<;>simp [hk] at h
theorem Closed.set {md:Region.Mode} {ops:Array Oper} {listed:Array Bool} (h:Closed md ops listed) {k:Nat} (hk:k∈Region.ready md ops listed):Closed md ops (listed.setIfInBounds k true):=by
 intro m o ho hm e he hb
 obtain ⟨_,ok,hok,hall⟩:=mem_ready.1 hk
 refine getD_set_true ?_
 by_cases hmk:k=m
 ·subst hmk
  rw [hok] at ho
  cases ho
  exact hall e he hb
 ·rw [getD_set_ne false hmk] at hm
  exact h m o ho hm e he hb
theorem depO_listed {md:Region.Mode} {ops:Array Oper} {listed:Array Bool} (hc:Closed md ops listed) {i:Nat}:∀(f j:Nat) (o:Oper),ops[j]? =some o→(∀e∈o.after,Region.binds md e=true→listed.getD e.on false=true)→depO md ops f j i=true→listed.getD i false=true
 |0,_,_,_,_,h=>by simp [depO] at h
 |f+1,j,o,ho,hall,h=>by
  simp only [depO,ho] at h
  obtain ⟨e,he,h⟩:=Array.any_eq_true'.1 h
  simp only [Bool.and_eq_true,Bool.or_eq_true,beq_iff_eq] at h
  obtain ⟨hb,rfl|h⟩:=h
  ·exact hall e he hb
  ·cases hq:ops[e.on]? with
   |none=>
    cases f with
    |zero=>simp [depO] at h
    |succ f=>simp [depO,hq] at h
   |some o'=>exact depO_listed hc f e.on o' hq (hc e.on o' hq (hall e he hb)) h
def wpAnyS (m:Bool) (P:Program) (md:Region.Mode) (ops:Array Oper) (Q:Exit→Act→World→Prop) (R:World→World→Prop):Nat→Array Bool→Act→World→Prop
 |0,listed,a,w=>Region.ready md ops listed=[]∧Q .normal a w
 |fuel+1,listed,a,w=>
  (Region.ready md ops listed=[]→Q .normal a w)∧
  ∀i∈Region.ready md ops listed,wpOp P ops Q i (fun a' w'=>(wildAt m ops i=true∨R w w')∧wpAnyS m P md ops Q R fuel (listed.setIfInBounds i true) a' w') a w
section
variable {m:Bool} {P:Program} {ops:Array Oper} {Q:Exit→Act→World→Prop} {md:Region.Mode} {R:World→World→Prop}
theorem wpAny_of_S:∀(fuel:Nat) (listed:Array Bool) (a:Act) (w:World),wpAnyS m P md ops Q R fuel listed a w→wpAny P md ops Q fuel listed a w
 |0,_,_,_,h=>h
 |fuel+1,_,_,_,h=>⟨h.1,fun i hi=>wpOp_mono (fun a' w' h'=>wpAny_of_S fuel _ a' w' h'.2) (h.2 i hi)⟩
theorem wildFree_spec {listed:Array Bool} {i:Nat} (h:wildFree m md ops listed i=true):∀j oj,ops[j]? =some oj→wildO m oj=true→j≠i→listed.getD j true=false→depO md ops ops.size j i=true:=by
 intro j oj hj hw hne hl
 have hlt:j<ops.size:=(Array.getElem?_eq_some_iff.1 hj).1
 have:=List.all_eq_true.1 h j (List.mem_range.2 hlt)
 simp only [hj,hw,hl,Bool.not_true,Bool.false_or,Bool.or_false,Bool.or_eq_true,beq_iff_eq] at this
 rcases this with h|h
 ·exact absurd h hne
 ·exact h
theorem wpAnyS_first (hrefl:∀w,R w w) (ht:∀x y z,R x y→R y z→R x z) {i:Nat} {oi:Oper} {v:Value} (hi:ops[i]? =some oi) (hsel:∀(j:Nat) (o:Oper) cs b,ops[j]? =some o→o.op≠ .select cs b)
  (hQ:∀c a w,Q (.panic c) (a.put oi.dst v) w→Q (.panic c) a w):
  ∀(fuel:Nat) (listed:Array Bool) (a:Act) (w:World),
   (∀j oj,ops[j]? =some oj→j≠i→listed.getD j true=false→(∀e∈oj.after,Region.binds md e=true→e.on≠i)→oi.apart ops oj=true)→
   Closed md ops listed→(∀j oj,ops[j]? =some oj→wildO m oj=true→j≠i→listed.getD j true=false→depO md ops ops.size j i=true)→
   i∈Region.ready md ops listed→YieldsR P ops R oi v a w→
   wpAnyS m P md ops Q R fuel (listed.setIfInBounds i true) (a.put oi.dst v) w→wpAnyS m P md ops Q R (fuel+1) listed a w:=by
 intro fuel
 induction fuel with
 |zero=>
  intro listed a w _ _ _ hr hy H
  refine ⟨fun h=>(by rw [h] at hr;cases hr),fun j hj=> ?_⟩
  by_cases hji:j=i
  ·subst hji;exact hy.wpOp hi (hrefl w) ⟨.inr (hrefl w),H⟩
  ·have:=ready_mono hj hji
   rw [H.1] at this
   cases this
 |succ fuel ih=>
  intro listed a w hfree hcl hwild hr hy H
  refine ⟨fun h=>(by rw [h] at hr;cases hr),fun j hj=> ?_⟩
  by_cases hji:j=i
  ·subst hji;exact hy.wpOp hi (hrefl w) ⟨.inr (hrefl w),H⟩
  ·have h1:=H.2 j (ready_mono hj hji)
   obtain ⟨hjun,oj,hoj,hall⟩:=mem_ready.1 hj
   have hnot:∀e∈oj.after,Region.binds md e=true→e.on≠i:=fun e he hb heq=>by
    have h1:=hall e he hb
    have h0:=(mem_ready.1 hr).1
    rw [heq] at h1
    rcases Nat.lt_or_ge i listed.size with h'|h'
    ·simp [h'] at h0 h1;rw [h0] at h1;cases h1
    ·simp [Array.getElem?_eq_none h'] at h1
   have hnw:wildAt m ops j≠true:=fun hw=>by
    have hw':wildO m oj=true:=by simpa [wildAt,hoj] using hw
    have h1:=depO_listed hcl _ j oj hoj hall (hwild j oj hoj hw' hji hjun)
    have h0:=(mem_ready.1 hr).1
    rcases Nat.lt_or_ge i listed.size with h'|h'
    ·simp [h'] at h0 h1;rw [h0] at h1;cases h1
    ·simp [Array.getElem?_eq_none h'] at h1
   have h2:=wpOp_putR hoj (hfree j oj hoj hji hjun hnot) (fun cs b=>hsel i oi cs b hi) (fun cs b=>hsel j oj cs b hoj) hQ hy h1
   have hun':∀k,(listed.setIfInBounds j true).getD k true=false→listed.getD k true=false:=fun k hun=>by
    by_cases hjk:j=k
    ·subst hjk;exact hjun
    ·rw [getD_set_ne true hjk] at hun;exact hun
   refine wpOp_mono (fun a' w' h3=>⟨h3.2.1,?_⟩) h2
   have hR:R w w':=h3.2.1.resolve_left hnw
   refine ih (listed.setIfInBounds j true) a' w' (fun k ok hk hki hun hno=>hfree k ok hk hki (hun' k hun) hno) (hcl.set hj) (fun k ok hk hw hki hun=>hwild k ok hk hw hki (hun' k hun)) (ready_mono hr (Ne.symm hji)) (h3.1.later ht hR) ?_
   rw [Array.setIfInBounds_comm _ _ hji]
   exact h3.2.2
end
inductive Plan where
 |done
 |step (i:Nat) (p:Plan)
 |fork (l:List (Nat×Plan))
mutual
def ordT (m:Bool) (md:Region.Mode) (ops:Array Oper):Plan→Array Bool→Bool
 | .done,listed=>(Region.ready md ops listed).isEmpty
 | .step i p,listed=>(if ((ops[i]?).map fun o=>loudOp o.op).getD true then Region.ready md ops listed==[i] else (Region.ready md ops listed).contains i&&Region.free md ops listed i&&wildFree m md ops listed i)&&ordT m md ops p (listed.setIfInBounds i true)
 | .fork l,listed=> !l.isEmpty&&(Region.ready md ops listed==l.map Prod.fst)&&ordF m md ops l listed
def ordF (m:Bool) (md:Region.Mode) (ops:Array Oper):List (Nat×Plan)→Array Bool→Bool
 | [],_=>true
 |(i,p)::l,listed=>(ops[i]?).isSome&&ordT m md ops p (listed.setIfInBounds i true)&&ordF m md ops l listed
end
mutual
def sizeT:Plan→Nat→Bool
 | .done,n=>n==0
 | .step _ p,n=>match n with
  |0=>false
  |n+1=>sizeT p n
 | .fork l,n=>match n with
  |0=>false
  |n+1=>sizeF l n
def sizeF:List (Nat×Plan)→Nat→Bool
 | [],_=>true
 |(_,p)::l,n=>sizeT p n&&sizeF l n
end
def lexT (m:Bool) (ops:Array Oper) (p:Plan):Bool:=Region.noSelect ops&&sizeT p ops.size&&ordT m .any ops p (Array.replicate ops.size false)
mutual
def wpLexT (m:Bool) (P:Program) (ops:Array Oper) (Q:Exit→Act→World→Prop) (R:World→World→Prop):Plan→Act→World→Prop
 | .done,a,w=>Q .normal a w
 | .step i p,a,w=>
  match ops[i]? with
  |none=>False
  |some o=>
   if Region.wanted o (yielded ops a.tmps) then
    if loudOp o.op then o.wp P a w (fun a' w'=>(wildAt m ops i=true∨R w w')∧wpLexT m P ops Q R p a' w') Q
    else ∃v,(∀w',R w w'→(execOp a.eval o).run P w'= .ok (.value v) w')∧wpLexT m P ops Q R p (a.put o.dst v) w
   else wpLexT m P ops Q R p (a.put o.dst undef) w
 | .fork l,a,w=>wpLexF m P ops Q R l a w
def wpLexF (m:Bool) (P:Program) (ops:Array Oper) (Q:Exit→Act→World→Prop) (R:World→World→Prop):List (Nat×Plan)→Act→World→Prop
 | [],_,_=>True
 |(i,p)::l,a,w=>
  (match ops[i]? with
  |none=>False
  |some o=>if Region.wanted o (yielded ops a.tmps) then o.wp P a w (fun a' w'=>(wildAt m ops i=true∨R w w')∧wpLexT m P ops Q R p a' w') Q else wpLexT m P ops Q R p (a.put o.dst undef) w)∧wpLexF m P ops Q R l a w
end
section
variable {m:Bool} {P:Program} {ops:Array Oper} {Q:Exit→Act→World→Prop} {md:Region.Mode} {R:World→World→Prop}
mutual
theorem wpAnyS_lexT (hrefl:∀w,R w w) (ht:∀x y z,R x y→R y z→R x z) (hs:Region.noSelect ops=true)
  (hQ:∀c a d v w,Q (.panic c) (a.put d v) w→Q (.panic c) a w):∀(p:Plan) (n:Nat) (listed:Array Bool) (a:Act) (w:World),
  sizeT p n=true→Closed md ops listed→ordT m md ops p listed=true→wpLexT m P ops Q R p a w→wpAnyS m P md ops Q R n listed a w
 | .done,0,listed,a,w,_,_,hB,h=>⟨by simpa [ordT] using hB,by simpa [wpLexT] using h⟩
 | .done,n+1,_,_,_,hz,_,_,_=>by simp [sizeT] at hz
 | .step _ _,0,_,_,_,hz,_,_,_=>by simp [sizeT] at hz
 | .fork _,0,_,_,_,hz,_,_,_=>by simp [sizeT] at hz
 | .step k p,n+1,listed,a,w,hz,hcl,hB,h=>by
  simp only [sizeT] at hz
  cases h0:ops[k]? with
  |none=>simp only [wpLexT,h0] at h
  |some o=>
   simp only [ordT,h0,Option.map_some,Option.getD_some,Bool.and_eq_true] at hB
   obtain ⟨hr,hB'⟩:=hB
   simp only [wpLexT,h0] at h
   by_cases hloud:loudOp o.op=true
   ·rw [if_pos hloud] at hr
    have hr':Region.ready md ops listed=[k]:=by simpa using hr
    refine ⟨fun h=>(by rw [h] at hr';cases hr'),fun i hi=> ?_⟩
    rw [hr'] at hi
    obtain rfl:=List.mem_singleton.1 hi
    unfold wpOp
    simp only [h0]
    split
    ·rename_i hw
     rw [if_pos hw,if_pos hloud] at h
     exact .inl (Oper.wp_mono (fun a' w' h3=>⟨h3.1,wpAnyS_lexT hrefl ht hs hQ p n _ a' w' hz (hcl.set (by rw [hr'];simp)) hB' h3.2⟩) h)
    ·rename_i hw
     rw [if_neg hw] at h
     exact ⟨.inr (hrefl w),wpAnyS_lexT hrefl ht hs hQ p n _ _ w hz (hcl.set (by rw [hr'];simp)) hB' h⟩
   ·rw [if_neg hloud] at hr
    simp only [Bool.and_eq_true] at hr
    obtain ⟨⟨hr1,hf⟩,hwf⟩:=hr
    have hy:∃v,YieldsR P ops R o v a w∧wpLexT m P ops Q R p (a.put o.dst v) w:=by
     by_cases hw:Region.wanted o (yielded ops a.tmps)=true
     ·rw [if_pos hw,if_neg hloud] at h
      obtain ⟨v,h1,h2⟩:=h
      exact ⟨v,.inl ⟨hw,h1⟩,h2⟩
     ·rw [if_neg hw] at h
      exact ⟨undef,.inr ⟨by simpa using hw,rfl⟩,h⟩
    obtain ⟨v,hy,hK⟩:=hy
    exact wpAnyS_first hrefl ht h0 (Region.noSelect_spec hs) (fun c a w=>hQ c a _ _ w) n listed a w (Region.free_spec h0 hf) hcl (wildFree_spec hwf) (by simpa using hr1) hy
     (wpAnyS_lexT hrefl ht hs hQ p n _ _ w hz (hcl.set (by simpa using hr1)) hB' hK)
 | .fork l,n+1,listed,a,w,hz,hcl,hB,h=>by
  simp only [sizeT] at hz
  simp only [ordT,Bool.and_eq_true] at hB
  simp only [wpLexT] at h
  obtain ⟨⟨hne,hr⟩,hB'⟩:=hB
  have hr':Region.ready md ops listed=l.map Prod.fst:=by simpa using hr
  have hall:=wpAnyS_lexF hrefl ht hs hQ l n listed a w hz hcl (fun i hi=>by rw [hr'];exact hi) hB' h
  refine ⟨fun h=> ?_,fun i hi=> ?_⟩
  ·rw [h] at hr'
   cases l with
   |nil=>simp at hne
   |cons x l=>simp at hr'
  ·rw [hr'] at hi
   exact hall i hi
theorem wpAnyS_lexF (hrefl:∀w,R w w) (ht:∀x y z,R x y→R y z→R x z) (hs:Region.noSelect ops=true)
  (hQ:∀c a d v w,Q (.panic c) (a.put d v) w→Q (.panic c) a w):∀(l:List (Nat×Plan)) (n:Nat) (listed:Array Bool) (a:Act) (w:World),
  sizeF l n=true→Closed md ops listed→(∀i∈l.map Prod.fst,i∈Region.ready md ops listed)→ordF m md ops l listed=true→wpLexF m P ops Q R l a w→
   ∀i∈l.map Prod.fst,wpOp P ops Q i (fun a' w'=>(wildAt m ops i=true∨R w w')∧wpAnyS m P md ops Q R n (listed.setIfInBounds i true) a' w') a w
 | [],_,_,_,_,_,_,_,_,_=>fun i hi=>by simp at hi
 |(k,p)::l,n,listed,a,w,hz,hcl,hrd,hB,h=>fun i hi=>by
  simp only [sizeF,Bool.and_eq_true] at hz
  simp only [ordF,Bool.and_eq_true] at hB
  simp only [wpLexF] at h
  rcases List.mem_cons.1 hi with he|hi
  ·have he:i=k:=he
   subst he
   cases h0:ops[i]? with
   |none=>simp [h0] at hB
   |some o=>
    have h:=h.1
    simp only [h0] at h
    unfold wpOp
    simp only [h0]
    split
    ·rename_i hw
     rw [if_pos hw] at h
     exact .inl (Oper.wp_mono (fun a' w' h3=>⟨h3.1,wpAnyS_lexT hrefl ht hs hQ p n _ a' w' hz.1 (hcl.set (hrd _ (by simp))) hB.1.2 h3.2⟩) h)
    ·rename_i hw
     rw [if_neg hw] at h
     exact ⟨.inr (hrefl w),wpAnyS_lexT hrefl ht hs hQ p n _ _ w hz.1 (hcl.set (hrd _ (by simp))) hB.1.2 h⟩
  ·exact wpAnyS_lexF hrefl ht hs hQ l n listed a w hz.2 hcl (fun i hi=>hrd i (by simp at hi⊢;exact .inr hi)) hB.2 h.2 i hi
end
end
def Old (w w':World):Prop:=Below w.heap.size w w'
theorem Old.refl (w:World):Old w w:=Below.refl _ _
theorem Old.trans (x y z:World) (h1:Old x y) (h2:Old y z):Old x z:=below_step h1 h2
section
variable {P:Program} {Q:Exit→Act→World→Prop} {a:Act} {w:World}
theorem wp_region_old (order:List Nat) {id:Nat} {l:List Oper} (hm:P.follows .mixedOrders=true) (hB:lexR l.toArray order=true)
  (hQ:∀c a d v w,Q (.panic c) (a.put d v) w→Q (.panic c) a w)
  (h:wpLexR P l.toArray Q Old order a w.drew):(Code.region id l.toArray true).wp P Q a w:=
 wp_region_lexR (R:=Old) order Old.refl Old.trans hm hB hQ h
def nthOp:List Oper→Nat→Option Oper
 | [],_=>none
 |o::_,0=>some o
 |_::l,n+1=>nthOp l n
theorem nthOp_eq:∀(l:List Oper) (i:Nat),nthOp l i=l.toArray[i]?
 | [],_=>by simp [nthOp]
 |o::l,0=>by simp [nthOp]
 |o::l,n+1=>by
  have:=nthOp_eq l n
  simp only [List.getElem?_toArray] at this
  simp [nthOp,this]
variable {l:List Oper} {rest:List Nat} {i:Nat} {o:Oper}
theorem lex_quiet {v:Value} (ho:nthOp l i=some o) (hl:loudOp o.op=false) (hw:Region.wanted o (yielded l.toArray a.tmps)=true)
  (hy:∀w',Old w w'→(execOp a.eval o).run P w'= .ok (.value v) w') (h:wpLexR P l.toArray Q Old rest (a.put o.dst v) w):wpLexR P l.toArray Q Old (i::rest) a w:=by
 rw [nthOp_eq] at ho
 simp only [wpLexR,ho,hw,hl,if_true]
 exact ⟨v,hy,h⟩
theorem lex_skip (ho:nthOp l i=some o) (hw:Region.wanted o (yielded l.toArray a.tmps)=false) (h:wpLexR P l.toArray Q Old rest (a.put o.dst undef) w):wpLexR P l.toArray Q Old (i::rest) a w:=by
 rw [nthOp_eq] at ho
 simp only [wpLexR,ho,hw]
 exact h
theorem lex_loud (ho:nthOp l i=some o) (hl:loudOp o.op=true) (hw:Region.wanted o (yielded l.toArray a.tmps)=true)
  (h:∀K:Act→World→Prop,(∀a' w',Below w.heap.size w w'→wpLexR P l.toArray Q Old rest a' w'→K a' w')→o.wp P a w K Q):wpLexR P l.toArray Q Old (i::rest) a w:=by
 rw [nthOp_eq] at ho
 simp only [wpLexR,ho,hw,hl,if_true]
 exact h _ (fun a' w' h1 h2=>⟨h1,h2⟩)
theorem lex_nil {ops:Array Oper} (h:Q .normal a w):wpLexR P ops Q Old [] a w:=h
end
def Kept (B:Nat) (w w':World):Prop:=Below B w w'
structure But (g:Nat) (w w':World):Prop where
 size:w.heap.size≤w'.heap.size
 block:∀b,b<w.heap.size→b≠g→w'.heap[b]? =w.heap[b]?
theorem But.refl {g:Nat} (w:World):But g w w:=⟨Nat.le_refl _,fun _ _ _=>rfl⟩
theorem But.trans {g:Nat} {x y z:World} (h1:But g x y) (h2:But g y z):But g x z:=⟨Nat.le_trans h1.size h2.size,fun b hb hne=>(h2.block b (Nat.lt_of_lt_of_le hb h1.size) hne).trans (h1.block b hb hne)⟩
theorem But.of {g:Nat} {w w':World} (h:Below w.heap.size w w'):But g w w':=⟨h.size,fun b hb _=>h.block b hb⟩
theorem But.setRow {g:Nat} (w:World) (cs:Array Value):But g w (w.setRow g cs):=⟨by simp [World.setRow],fun b _ hne=>Go.setRow_other w g b cs hne⟩
theorem But.setCell {g:Nat} (w:World) (i:Nat) (v:Value):But g w (w.setCell ⟨g,i,none⟩ v):=⟨by simp,fun b _ hne=>heap_setCell_other w ⟨g,i,none⟩ b v hne⟩
theorem Blk.but {g:Nat} {w w':World} {b:Nat} {cs:Array Value} {t:TypeId} (h:Blk w b cs t) (hb:But g w w') (hne:b≠g):Blk w' b cs t:=(hb.block b h.lt hne).trans h
structure KeepNot (T:TypeId) (w w':World):Prop where
 size:w.heap.size≤w'.heap.size
 block:∀(b:Nat) (cs:Array Value) (t:TypeId) (fr:Nat×Nat),w.heap[b]? =some (Obj.cells cs t fr)→t≠T→w'.heap[b]? =w.heap[b]?
theorem KeepNot.refl {T:TypeId} (w:World):KeepNot T w w:=⟨Nat.le_refl _,fun _ _ _ _ _ _=>rfl⟩
theorem KeepNot.trans {T:TypeId} {x y z:World} (h1:KeepNot T x y) (h2:KeepNot T y z):KeepNot T x z:=⟨Nat.le_trans h1.size h2.size,fun b cs t fr hb hne=>(h2.block b cs t fr ((h1.block b cs t fr hb hne).trans hb) hne).trans (h1.block b cs t fr hb hne)⟩
theorem KeepNot.of {T:TypeId} {w w':World} (h:Below w.heap.size w w'):KeepNot T w w':=⟨h.size,fun b _ _ _ hb _=>h.block b (Array.getElem?_eq_some_iff.1 hb).1⟩
theorem KeepNot.grown {T:TypeId} {w w':World} {B size n c:Nat} {a:Option Addr} {vs:List Value} (h:Own w B T size a n c vs) (hg:w.grownBy w' (Value.slice a n c).ownBlock):KeepNot T w w':=by
 refine ⟨hg.size,fun b cs t fr hb hne=>hg.block b (Array.getElem?_eq_some_iff.1 hb).1 fun e=> ?_⟩
 rcases h.2 with ⟨k1,_⟩|⟨g',cap',cur',k1,_,k3,_⟩
 ·rw [k1] at e;cases e
 ·rw [k1] at e
  cases e
  rw [hb] at k3
  simp only [Option.some.injEq,Obj.cells.injEq] at k3
  exact hne k3.2.1
theorem Blk.keepNot {T:TypeId} {w w':World} {b:Nat} {cs:Array Value} {t:TypeId} (h:Blk w b cs t) (hk:KeepNot T w w') (hne:t≠T):Blk w' b cs t:=(hk.block b cs t (0,0) h hne).trans h
theorem wp_region_treeN {P:Program} {Q:Exit→Act→World→Prop} {a:Act} {w:World} (T:TypeId) (p:Plan) {id:Nat} {l:List Oper} (hm:P.follows .mixedOrders=true) (hB:lexT true l.toArray p=true)
  (hQ:∀c a d v w,Q (.panic c) (a.put d v) w→Q (.panic c) a w)
  (h:wpLexT true P l.toArray Q (KeepNot T) p a w.drew):(Code.region id l.toArray true).wp P Q a w:=by
 simp only [lexT,Bool.and_eq_true] at hB
 exact wp_region_any hm (wpAny_of_S _ _ _ _ (R:=KeepNot T) (wpAnyS_lexT (R:=KeepNot T) (md:= .any) KeepNot.refl (fun _ _ _ h1 h2=>KeepNot.trans h1 h2) hB.1.1 hQ p _ _ a w.drew hB.1.2 (Closed.none _ _ _) hB.2 h))
section
variable {P:Program} {Q:Exit→Act→World→Prop} {a:Act} {w:World} {R:World→World→Prop}
theorem wp_region_treeR (m:Bool) (R:World→World→Prop) (hrefl:∀w,R w w) (ht:∀x y z,R x y→R y z→R x z) (p:Plan) {id:Nat} {l:List Oper} (hm:P.follows .mixedOrders=true) (hB:lexT m l.toArray p=true)
  (hQ:∀c a d v w,Q (.panic c) (a.put d v) w→Q (.panic c) a w)
  (h:wpLexT m P l.toArray Q R p a w.drew):(Code.region id l.toArray true).wp P Q a w:=by
 simp only [lexT,Bool.and_eq_true] at hB
 exact wp_region_any hm (wpAny_of_S _ _ _ _ (R:=R) (wpAnyS_lexT (R:=R) (md:= .any) hrefl ht hB.1.1 hQ p _ _ a w.drew hB.1.2 (Closed.none _ _ _) hB.2 h))
theorem wp_region_tree (B:Nat) (p:Plan) {id:Nat} {l:List Oper} (hm:P.follows .mixedOrders=true) (hB:lexT false l.toArray p=true)
  (hQ:∀c a d v w,Q (.panic c) (a.put d v) w→Q (.panic c) a w)
  (h:wpLexT false P l.toArray Q (Kept B) p a w.drew):(Code.region id l.toArray true).wp P Q a w:=
 wp_region_treeR false (Kept B) (fun _=>Below.refl _ _) (fun _ _ _ h1 h2=>Below.trans h1 h2) p hm hB hQ h
theorem wp_region_treeB (g:Nat) (p:Plan) {id:Nat} {l:List Oper} (hm:P.follows .mixedOrders=true) (hB:lexT false l.toArray p=true)
  (hQ:∀c a d v w,Q (.panic c) (a.put d v) w→Q (.panic c) a w)
  (h:wpLexT false P l.toArray Q (But g) p a w.drew):(Code.region id l.toArray true).wp P Q a w:=
 wp_region_treeR false (But g) But.refl (fun _ _ _ h1 h2=>But.trans h1 h2) p hm hB hQ h
variable {l:List Oper} {p:Plan} {i:Nat} {o:Oper}
theorem tree_quiet {m:Bool} {v:Value} (ho:nthOp l i=some o) (hl:loudOp o.op=false) (hw:Region.wanted o (yielded l.toArray a.tmps)=true)
  (hy:∀w',R w w'→(execOp a.eval o).run P w'= .ok (.value v) w') (h:wpLexT m P l.toArray Q R p (a.put o.dst v) w):wpLexT m P l.toArray Q R (.step i p) a w:=by
 rw [nthOp_eq] at ho
 simp only [wpLexT,ho,hw,hl,if_true]
 exact ⟨v,hy,h⟩
theorem tree_skip {m:Bool} (ho:nthOp l i=some o) (hw:Region.wanted o (yielded l.toArray a.tmps)=false) (h:wpLexT m P l.toArray Q R p (a.put o.dst undef) w):wpLexT m P l.toArray Q R (.step i p) a w:=by
 rw [nthOp_eq] at ho
 simp only [wpLexT,ho,hw]
 exact h
theorem tree_loud {m:Bool} (ho:nthOp l i=some o) (hl:loudOp o.op=true) (hw:Region.wanted o (yielded l.toArray a.tmps)=true)
  (h:∀K:Act→World→Prop,(∀a' w',R w w'→wpLexT m P l.toArray Q R p a' w'→K a' w')→o.wp P a w K Q):wpLexT m P l.toArray Q R (.step i p) a w:=by
 rw [nthOp_eq] at ho
 simp only [wpLexT,ho,hw,hl,if_true]
 exact h _ (fun a' w' h1 h2=>⟨.inr h1,h2⟩)
theorem tree_store (ho:nthOp l i=some o) (hl:isStoreO o=true) (hw:Region.wanted o (yielded l.toArray a.tmps)=true)
  (h:∀K:Act→World→Prop,(∀a' w',wpLexT true P l.toArray Q R p a' w'→K a' w')→o.wp P a w K Q):wpLexT true P l.toArray Q R (.step i p) a w:=by
 rw [nthOp_eq] at ho
 have hl':loudOp o.op=true:=by
  unfold isStoreO at hl
  split at hl
  ·rename_i h';rw [h'];rfl
  ·rename_i h';rw [h'];rfl
  ·cases hl
 simp only [wpLexT,ho,hw,hl',if_true]
 exact h _ (fun a' w' h2=>⟨.inl (by simp [wildAt,wildO,ho,hl]),h2⟩)
theorem tree_done {m:Bool} {ops:Array Oper} (h:Q .normal a w):wpLexT m P ops Q R .done a w:=by simp only [wpLexT];exact h
variable {rest:List (Nat×Plan)}
theorem tree_fork {m:Bool} {ops:Array Oper} (h:wpLexF m P ops Q R rest a w):wpLexT m P ops Q R (.fork rest) a w:=by simp only [wpLexT];exact h
theorem tree_nil {m:Bool} {ops:Array Oper}:wpLexF m P ops Q R [] a w:=by simp only [wpLexF]
theorem tree_arm {m:Bool} (ho:nthOp l i=some o) (hw:Region.wanted o (yielded l.toArray a.tmps)=true)
  (h:∀K:Act→World→Prop,(∀a' w',R w w'→wpLexT m P l.toArray Q R p a' w'→K a' w')→o.wp P a w K Q) (h2:wpLexF m P l.toArray Q R rest a w):wpLexF m P l.toArray Q R ((i,p)::rest) a w:=by
 rw [nthOp_eq] at ho
 simp only [wpLexF,ho,hw,if_true]
 exact ⟨h _ (fun a' w' h1 h2=>⟨.inr h1,h2⟩),h2⟩
end
end
end Go.Proofs.YtioigihakjlopaaGreat
