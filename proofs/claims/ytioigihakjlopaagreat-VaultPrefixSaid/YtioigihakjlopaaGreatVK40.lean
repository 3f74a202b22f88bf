/- Texts put together and cut to what is used: RangeM, RoundIn, LogEach, RangeA. -/
import Derived.Test.YtioigihakjlopaaGreatVK35
import Derived.RangeFuncNested
import Derived.RangeFuncBound
import Derived.RangeFuncCalls
import Derived.RangeFuncLeaves
import Derived.Below
import Derived.OrdersIn
import Derived.Sort.QuietIn
import Derived.Sort.CutIn
import Derived.Shelf.Abstract
import Derived.WalkKit
import Derived.OwnWalkIn
import Derived.TacticsInMore
import Derived.LoopNIn
import Derived.LoopIn
namespace Go.Proofs.YtioigihakjlopaaGreat
set_option linter.unusedVariables false
set_option linter.unusedSimpArgs false
section
open Go Go.RowKit
variable {F:Fence} {n:Nat} {P:Program} {w:World}
def SeqStopsM {α:Type} (F:Fence) (n:Nat) (P:Program) (g:Nat) (lb:Array Value) (encs:α→Array Value) (M:List α→α→World→Prop) (Kp:World→World→Prop) (S Sp:List α→Prop) (w:World):Prop:=
 ∀(l:Nat) (J Jx:List α→World→Prop) (W:World),Below w.heap.size w W→AbidesFrom W.heap.size J→AbidesFrom W.heap.size Jx→
  (∀pre x W1,J pre W1→M pre x W1→YieldAt F (n-1) P l (encs x) W1 fun e W'=>
   (e= .returned (.bool true)∧J (pre++ [x]) W'∧Kp W1 W')∨(e= .returned (.bool false)∧Jx (pre++ [x]) W'))→
  J [] W→
  CallsIn F n P g (#[.func (.yield l) #[] #[]]++lb) W fun e W'=>(∃v,e= .returned v)∧((∃xs,S xs∧J xs W')∨(∃pre,Sp pre∧Jx pre W'))
structure Held {α:Type} (I:List α→World→Prop) (b:Nat) (r:Loop) (pre:List α) (W:World):Prop where
 own:I pre W
 rcd:W.heap[b+1]? =some (.loop r)
 dfr:W.heap[b]? =some (.deferred (some []))
theorem Held.abides {α:Type} {I:List α→World→Prop} {b:Nat} {r:Loop} (hI:OwnFrom b I) {B:Nat} (hB:b≤B):AbidesFrom B (Held I b r):=fun s X Y row hs hg hr=>
 ⟨hI s X Y row hs.own hg fun q e=>by obtain ⟨h1,o,ho,hw⟩:=hr q e;exact ⟨Nat.le_trans hB h1,o,ho,Obj.not_cells_of_walk hw⟩,(grownBy_keeps hg (fun q e=>(hr q e).2) hs.rcd rfl).trans hs.rcd,(grownBy_keeps hg (fun q e=>(hr q e).2) hs.dfr rfl).trans hs.dfr⟩
theorem Held.turn {α:Type} {I:List α→World→Prop} {b:Nat} {r:Loop} {pre:List α} {W:World} (hI:OwnFrom b I) (h:Held I b r pre W) (r':Loop):Held I b r' pre (W.putObj (b+1) (.loop r')):=
 ⟨hI.putObj _ h.own (by omega) h.rcd rfl,World.putObj_heap_same (Array.getElem?_eq_some_iff.1 h.rcd).1,(World.putObj_heap_other (by omega)).trans h.dfr⟩
theorem wpIn_rangeFunc_ownM {α:Type} {g:Operand} {ps:Array Tmp} {assign body:Code} {Q:Exit→Act→World→Prop} {a:Act}
  (hro:F.round=none) (h1:1≤n) {gf:Nat} {lb:Array Value} (hg:a.eval g= .func (.func gf) #[] lb) (hFg:F.fn gf) (eg:∀args w,(callFunc gf args).run P w= .ok (.enter gf args) w)
  {encs:α→Array Value} {M:List α→α→World→Prop} {Kp:World→World→Prop} {S Sp:List α→Prop} {w0:World} (hseq:SeqStopsM F (n-1) P gf lb encs M Kp S Sp w0)
  (hM:OwnFrom w.heap.size (fun (p:List α×α) W=>M p.1 p.2 W))
  (hKt:∀{A B C:World},Kp A B→Kp B C→Kp A C) (hKb:∀(W:World) (l:Nat) (o o':Obj),w.heap.size≤l→W.heap[l]? =some o→o.isCells=false→o.isWalk=false→Kp W (W.putObj l o')) (hb0:Below w0.heap.size w0 w) (hps:∀x,(encs x).size=ps.size)
  (I:List α→World→Prop) (Ix:Code→List α→World→Prop) (hI:OwnFrom w.heap.size I) (hIx:∀c,OwnFrom w.heap.size (Ix c)) (h0:I [] w) (a₁:α→Act)
  (hassign:∀(l:Nat) (x:α) (W:World) (K:Act→World→Prop),K (a₁ x) W→
   assign.wpIn (F.inRound l) (n-1-1) P (Exit.then K (fun _ _ _=>False)) {tmps:=(ps.zip (encs x)).foldl (fun t (p,v)=>t.setIfInBounds p v) a.tmps,defers:=[]} W)
  (hbody:∀(l:Nat) (pre:List α) (x:α) (W:World),I pre W→M pre x W→body.wpIn (F.inRound l) (n-1-1) P (ownPostG w.heap.size Kp I Ix (pre++ [x]) W) (a₁ x) W)
  (hdone:∀(D:Nat) (xs:List α) (W:World),w.heap.size≤D→S xs→I xs W→W.heap[D]? =some (.deferred (some []))→Q .normal {a with defers:={target:= .collected D,args:= #[]}::a.defers} W)
  (hstop:∀(D:Nat) (c:Code) (pre:List α) (W:World),w.heap.size≤D→Sp pre→Ix c pre W→W.heap[D]? =some (.deferred (some []))→c.wpIn F n P Q {a with defers:={target:= .collected D,args:= #[]}::a.defers} W):
  (Code.rangeFunc g ps assign body).wpIn F n P Q a w:=by
 refine wpIn_rangeFunc fun fn hfn=> ?_
 rw [hro]
 obtain ⟨R,hR⟩:∃R:LoopState→Option Code→Loop,∀st pe,R st pe={state:=st,pending:=pe,fn,tmps:=a.tmps,params:=ps,assign,body,defers:=w.heap.size}:=⟨_,fun _ _=>rfl⟩
 have start:Held I w.heap.size (R .ready none) [] ((w.alloc (.deferred (some []))).alloc (.loop (R .ready none))):=
  ⟨hI.alloc _ (hI.alloc _ h0),by have:=World.alloc_heap_new (w.alloc (.deferred (some []))) (.loop (R .ready none));rwa [World.size_alloc] at this,(Below.heap_alloc _ _ _ (by simp)).trans (World.alloc_heap_new w _)⟩
 have bel:Below w0.heap.size w0 ((w.alloc (.deferred (some []))).alloc (.loop (R .ready none))):=hb0.trans ((((Below.refl _ w).alloc (Nat.le_refl _) _).alloc (by simp) _).mono hb0.size)
 have big:w.heap.size≤((w.alloc (.deferred (some []))).alloc (.loop (R .ready none))).heap.size:=by simp;omega
 refine ⟨w.heap.size+1,[{target:= .collected w.heap.size,args:= #[]}],((w.alloc (.deferred (some []))).alloc (.loop (R .ready none))),{target:= .fn (.func gf) lb,args:= #[.func (.yield (w.heap.size+1)) #[] #[]]},(w.alloc (.deferred (some []))).alloc (.loop (R .ready none)),gf,
  #[.func (.yield (w.heap.size+1)) #[] #[]]++lb,((w.alloc (.deferred (some []))).alloc (.loop (R .ready none))),by rw [hR];exact run_enterLoop_outer _ _ _ _ _,by simp only [resolve,hg];simp [go_sem],fun f' hf'=>by simp [Target.leads] at hf';subst hf';exact hFg,by simp [invoke,go_sem,eg],fun _=>h1,?_⟩
 have one:∀pre x W,Held I w.heap.size (R .ready none) pre W→M pre x W→YieldAt F (n-1-1) P (w.heap.size+1) (encs x) W fun e W'=>
   (e= .returned (.bool true)∧Held I w.heap.size (R .ready none) (pre++ [x]) W'∧Kp W W')∨(e= .returned (.bool false)∧∃c,Held (Ix c) w.heap.size (R .done (some c)) (pre++ [x]) W'):=by
  intro pre x W h hm
  have hy:=run_yield (P:=P) (args:=encs x) h.rcd (by rw [hR];exact hps x)
  rw [hR] at hy
  refine ⟨fn,_,assign,body,hy,roundIn_of_wpIn hfn (hassign _ x W _ ⟨_,run_beginRound h.rcd (by rw [hR]),?_⟩)⟩
  have h2:=h.turn hI {R .ready none with state:= .busy}
  have m2:M pre x (W.putObj (w.heap.size+1) (.loop {R .ready none with state:= .busy})):=hM.putObj (s:=(pre,x)) _ hm (by omega) h.rcd rfl
  have k2:=hKb W _ _ (.loop {R .ready none with state:= .busy}) (Nat.le_succ w.heap.size) h.rcd rfl rfl
  refine wpIn_mono (hbody _ pre x _ h2.own m2) ?_
  have fin:∀(jump:Option Code) (W3:World),KeepsFrom w.heap.size (W.putObj (w.heap.size+1) (.loop {R .ready none with state:= .busy})) W3→∀(I':List α→World→Prop),OwnFrom w.heap.size I'→I' (pre++ [x]) W3→
    (Instr.endRound (w.heap.size+1) jump).run P W3= .ok (.bool jump.isNone) (W3.putObj (w.heap.size+1) (.loop (R (if jump.isNone then .ready else .done) jump)))∧W3.heap[w.heap.size+1]? =some (.loop {R .ready none with state:= .busy})∧
    Held I' w.heap.size (R (if jump.isNone then .ready else .done) jump) (pre++ [x]) (W3.putObj (w.heap.size+1) (.loop (R (if jump.isNone then .ready else .done) jump))):=fun jump W3 hk I' hI' hi=>by
   have h3:Held I' w.heap.size {R .ready none with state:= .busy} (pre++ [x]) W3:=⟨hi,hk.same _ _ (by omega) h2.rcd rfl,hk.same _ _ (Nat.le_refl _) h2.dfr rfl⟩
   have hr3:=h3.rcd
   have:=run_endRound (P:=P) jump h3.rcd
   refine ⟨?_,h3.rcd,h3.turn hI' _⟩
   rw [hR] at this⊢
   exact this
  rintro e a3 W3 hp
  cases e with
  |normal=>
   obtain ⟨hk3,hkp3,hi3⟩:=hp
   obtain ⟨hr,hl3,h4⟩:=fin none W3 hk3 I hI hi3
   exact ⟨_,_,hr,.inl ⟨rfl,h4,hKt (hKt k2 hkp3) (hKb _ _ _ _ (by omega) hl3 rfl rfl)⟩⟩
  |ret=>exact ⟨_,_,(fin (some .ret) W3 hp.1 _ (hIx _) hp.2).1,.inr ⟨rfl,_,(fin (some .ret) W3 hp.1 _ (hIx _) hp.2).2.2⟩⟩
  |exit id=>exact ⟨_,_,(fin (some (.exit id)) W3 hp.1 _ (hIx _) hp.2).1,.inr ⟨rfl,_,(fin (some (.exit id)) W3 hp.1 _ (hIx _) hp.2).2.2⟩⟩
  |goto t=>exact ⟨_,_,(fin (some (.goto t)) W3 hp.1 _ (hIx _) hp.2).1,.inr ⟨rfl,_,(fin (some (.goto t)) W3 hp.1 _ (hIx _) hp.2).2.2⟩⟩
  |panic ch=>exact hp.elim
  |outgrown=>exact hp.elim
 refine (hseq (w.heap.size+1) (Held I w.heap.size (R .ready none)) (fun pre W=>∃c,Held (Ix c) w.heap.size (R .done (some c)) pre W) _ bel (Held.abides hI big) (fun s X Y row hs hg' hr=>by obtain ⟨c,hc⟩:=hs;exact ⟨c,Held.abides (hIx c) big s X Y row hc hg' hr⟩) one start).mono ?_
 rintro e W2 ⟨⟨v,rfl⟩,(⟨xs,hS,h⟩|⟨pre,hSp,c,h⟩)⟩
 ·refine ⟨none,_,by have:=run_endLoop (P:=P) h.rcd (by rw [hR];simp);rw [hR] at this;exact this,?_⟩
  exact hdone _ xs _ (Nat.le_refl _) hS (hI.putObj _ h.own (by omega) h.rcd rfl) ((World.putObj_heap_other (by omega)).trans h.dfr)
 ·refine ⟨some c,_,by have:=run_endLoop (P:=P) h.rcd (by rw [hR];simp);rw [hR] at this;exact this,?_⟩
  exact hstop _ c pre _ (Nat.le_refl _) hSp ((hIx c).putObj _ h.own (by omega) h.rcd rfl) ((World.putObj_heap_other (by omega)).trans h.dfr)
end
section
open Go.RowKit
def noDefer (o:Oper):Bool:=match o.op with
 | .defer _=>false
 |_=>true
section
variable {n l:Nat} {P:Program} {ops:Array Oper} {Q:Exit→Act→World→Prop} {md:Region.Mode}
theorem oper_round {o:Oper} {a:Act} {w:World} {K:Act→World→Prop} (hd:noDefer o=true) (h:o.wp P a w K Q):o.wpIn (Fence.wide.inRound l) n P a w K Q:=by
 have hs:o.semAt (Fence.wide.inRound l).round a.eval=execOp a.eval o:=Oper.semAt_eq _ _ _ (fun c e=>by simp [noDefer,e] at hd)
 refine ⟨fun _ _=>trivial,?_⟩
 rw [hs]
 unfold Oper.wp at h
 generalize (execOp a.eval o).run P w=r at*
 cases r with
 |ok x w'=>
  cases x<;>simp only [Oper.upon] at h<;>simp only [Oper.uponIn]
  case value=>exact h
  case skip=>exact h
  case defer=>exact h
  case enter f args=>exact ⟨fun e=>by simp [Fence.wide] at e,(callsIn_wide (n:=n-1)).2 h⟩
  case row row args=>exact ⟨fun e=>by simp [Fence.wide] at e,fun c cs _=>let ⟨v,w',r,s⟩:=h c cs;⟨v,w',r,(stepsIn_wide (P:=P)).2 s⟩⟩
 |halt x w'=>cases x<;>simp only [Oper.upon] at h<;>simp only [Oper.uponIn]<;>exact h
end
end
section
open Go.RowKit Go.Shelf
attribute [local go_sem] Oper.semAt_some
theorem len_any (w:World) (B d:Nat) (R:LogR) (h:LogAt w B d R):Calls Tryz.prog 108 #[.pointer (some ⟨R.l,0,none⟩)] w fun e w'=>e= .returned (.int .i64 (R.ls.length:Int))∧w'=w:=by
 have hb:=h.blk.rule
 go_enter Tryz.func108,Tryz.ntmps108
 go_wp2_with fail
 go_ret
 exact ⟨rfl,rfl⟩
theorem each_any (w:World) (l:Nat):Calls Tryz.prog 49 #[.pointer (some ⟨l,0,none⟩)] w fun e w'=>e= .returned (.func (.func 107) #[] #[.pointer (some ⟨w.heap.size,0,none⟩)])∧w'=w.alloc (.cells #[.pointer (some ⟨l,0,none⟩)] 86):=by
 have hmf:∀(fn:Fn) (first cap:Array Value) (w:World),(Instr.makeFunc fn first cap).run Tryz.prog w= .ok (.func fn first cap) w:=fun _ _ _ _=>rfl
 go_enter Tryz.func49,Tryz.ntmps49
 go_wp2_with fail
 go_ret
 exact ⟨rfl,rfl⟩
def LoadAt (ls:List (List UInt8)) (pre:List (Nat×Value)) (x:Nat×Value) (W:World):Prop:=
 x.1=pre.length∧∃(h:x.1<ls.length) (a:Option Addr) (c:Nat),x.2= .slice a ls[x.1].length c∧BytesAt W a ls[x.1]∧ls[x.1].length≤c
def encLoad (x:Nat×Value):Array Value:= #[.int .i64 (x.1:Int),x.2]
theorem grown_of_below {W W':World} (h:Below W.heap.size W W'):W.grownBy W' none:=⟨h.os,h.tape,h.output,h.size,fun k hk _=>h.block k hk⟩
theorem KeepAt.putObj {S:Nat→Prop} {W:World} {l:Nat} (o':Obj) (hS:∀x,S x→x≠l):KeepAt S W (W.putObj l o'):=⟨(grownBy_putObj' W l o').size,fun x hx=>World.putObj_heap_other (hS x hx)⟩
set_option maxRecDepth 100000 in
set_option maxHeartbeats 4000000 in
theorem each1_any (n:Nat) (h1:1≤n) (B d:Nat) (R:LogR) (bx:Nat) (w:World) (h:LogAt w B d R) (hbx:w.cell? ⟨bx,0,none⟩=some (.pointer (some ⟨R.l,0,none⟩))):
  SeqStopsM Fence.wide n Tryz.prog 107 #[.pointer (some ⟨bx,0,none⟩)] encLoad (LoadAt R.ls) (KeepAt fun x=>lfoot R x∨x=bx) (fun xs=>xs.length=R.ls.length) (fun _=>True) w:=fun l J Jx W hW hJ _ hY h0=>by
 have hbl:=World.block_lt_of_cell? w _ hbx
 have hcnt:=h.cnt
 have hlog:∀W',KeepAt (fun x=>lfoot R x∨x=bx) w W'→LogAt W' B d R:=fun W' hk=>h.keep fun x hx=>hk.2 x (.inl hx)
 have hS:∀x,(lfoot R x∨x=bx)→x<w.heap.size:=fun x hx=>hx.elim (fun hx=>(h.lt hx).2) (fun hx=>hx▸hbl)
 have hbox:∀W',KeepAt (fun x=>lfoot R x∨x=bx) w W'→W'.cell? ⟨bx,0,none⟩=some (.pointer (some ⟨R.l,0,none⟩)):=fun W' hk=>(World.cell?_of_block (a:=⟨bx,0,none⟩) (hk.2 bx (.inr rfl))).trans hbx
 refine callsIn_of_wp Tryz.func107 rfl trivial ?_ rfl
 simp only [Tryz.ntmps107,List.size_toArray,List.length_cons,List.length_nil,Nat.reduceAdd,Nat.reduceSub,Array.replicate_succ,Array.replicate_zero,List.push_toArray,List.append_toArray,List.nil_append,List.cons_append]
 have hB':W.cell? ⟨bx,0,none⟩=some (.pointer (some ⟨R.l,0,none⟩)):=(hW.cell (p:=⟨bx,0,none⟩) hbl).trans hbx
 have hlen:=len_any W B d R (h.old hW)
 gi_wp2_with (refine ⟨trivial,?_⟩;gi_at_call 108;refine (callsIn_wide.2 hlen).mono ?_;rintro e w' ⟨rfl,rfl⟩)
 clear hlen hB'
 gi_loopw [6] (fun p wr=>∃(k:Nat) (pre:List (Nat×Value)),k≤R.ls.length∧p= .int .i64 k∧pre.length=k∧J pre wr∧KeepAt (fun x=>lfoot R x∨x=bx) w wr) (fun p _=>R.ls.length-(intOf p).toNat)
 case atStart=>exact ⟨0,[],Nat.zero_le _,rfl,rfl,h0,KeepAt.below hW hS⟩
 case round=>
  obtain ⟨k,pre,hk,rfl,hpre,hJs,hbw⟩:=hrel
  by_cases hlt:k<R.ls.length
  ·have hp:wr.cell? ⟨bx,0,none⟩=some (.pointer (some ⟨R.l,0,none⟩)):=hbox _ hbw
   have hr:=hlog _ hbw
   have hb:=hr.blk.rule
   obtain ⟨A,C,e1,hown⟩:=hr.rows.2.2 k hlt
   have hvl:k<R.vs.length:=by rw [hr.rows.2.1];exact hlt
   obtain ⟨rb,ro,e2,hcell⟩:=hr.rows.1.row k hvl
   have hcell':wr.cell? ⟨rb,ro+k,none⟩=some (.slice A R.ls[k].length C):=by rw [hcell,←e1,List.getElem?_eq_getElem hvl]
   rw [e2] at hb
   have hlk:R.ls[k].length≤65536:=h.lens _ (List.getElem_mem hlt)
   have HK:=Lib.hid (show R.ls[k].length=R.ls[k].length from rfl)
   clear hcell e1 e2
   gi_wp2_with (refine ⟨trivial,?_⟩;gi_at_call 48;refine (callsIn_wide.2 (clone_any A _ C R.ls[k] wr hown.row rfl (by omega))).mono ?_;rintro e w1 ⟨a',c',rfl,hown1,hb1⟩)
   have hJ1:J pre w1:=hJ pre wr w1 none hJs (grown_of_below hb1) (fun r e=>by cases e)
   have hm1:LoadAt R.ls pre (k,.slice a' R.ls[k].length c') w1:=⟨hpre.symm,hlt,a',c',rfl,hown1.row,hown1.le⟩
   obtain ⟨fn,tmps,assign,body,hy,hR⟩:=hY pre (k,.slice a' R.ls[k].length c') w1 hJ1 hm1
   have hb01:KeepAt (fun x=>lfoot R x∨x=bx) w w1:=hbw.trans (KeepAt.below hb1 fun x hx=>Nat.lt_of_lt_of_le (hS x hx) hbw.1)
   clear hm1 hown1 hb1 hJ1 hJs
   unfold encLoad at hy
   dsimp only at hy
   gi_wp2
   rw [hy,Oper.uponIn_round]
   refine ⟨fun _=>h1,hR.mono ?_⟩
   rintro e W3 (⟨rfl,hJ3,hk3⟩|⟨rfl,hJx3⟩)
   ·gi_wp2
    go_roundw
    case rel=>exact ⟨k+1,pre++ [(k,.slice a' R.ls[k].length c')],by omega,by go_num,by simp [hpre],hJ3,hb01.trans hk3⟩
    case measure=>simp [intOf];omega
   ·gi_wp2
    refine bodyPost_ret (results_none rfl _ _ _) rfl ?_
    exact ⟨⟨_,rfl⟩,.inr ⟨_,trivial,hJx3⟩⟩
  ·obtain rfl:k=R.ls.length:=by omega
   gi_wp2
   go_end0
   exact ⟨⟨_,rfl⟩,.inl ⟨_,hpre,hJs⟩⟩
end
section
open Go Go.RowKit
variable {F:Fence} {n:Nat} {P:Program} {w:World}
def noPanic (Q:Exit→Act→World→Prop):Exit→Act→World→Prop
 | .panic _,_,_=>False
 |e,a,w=>Q e a w
theorem noPanic_mono {Q:Exit→Act→World→Prop}:∀(e:Exit) (a:Act) (w:World),noPanic Q e a w→Q e a w:=fun e a w h=>by
 cases e<;>first|exact h|exact h.elim
end
end Go.Proofs.YtioigihakjlopaaGreat
