/- Texts put together and cut to what is used: LogEach, RangeA, VaultO. -/
import Derived.Test.YtioigihakjlopaaGreatVB34
import Derived.Sort.QuietIn
import Derived.Sort.CutIn
import Derived.Shelf.Abstract
import Derived.WalkKit
import Derived.OwnWalkIn
import Derived.TacticsInMore
import Derived.LoopNIn
import Derived.LoopIn
namespace Go.Proofs.YtioigihakjlopaaGreat
set_option linter.unusedVariables false
set_option linter.unusedSimpArgs false
section
open Go.RowKit Go.Shelf
attribute [local go_sem] Oper.semAt_some
theorem len_any (w:World) (B d:Nat) (R:LogR) (h:LogAt w B d R):Calls Tryz.prog 108 #[.pointer (some ⟨R.l,0,none⟩)] w fun e w'=>e= .returned (.int .i64 (R.ls.length:Int))∧w'=w:=by
 have hb:=h.blk.rule
 go_enter Tryz.func108,Tryz.ntmps108
 go_wp2_with fail
 go_ret
 exact ⟨rfl,rfl⟩
theorem each_any (w:World) (l:Nat):Calls Tryz.prog 49 #[.pointer (some ⟨l,0,none⟩)] w fun e w'=>e= .returned (.func (.func 107) #[] #[.pointer (some ⟨w.heap.size,0,none⟩)])∧w'=w.alloc (.cells #[.pointer (some ⟨l,0,none⟩)] 86):=by
 have hmf:∀(fn:Fn) (first cap:Array Value) (w:World),(Instr.makeFunc fn first cap).run Tryz.prog w= .ok (.func fn first cap) w:=fun _ _ _ _=>rfl
 go_enter Tryz.func49,Tryz.ntmps49
 go_wp2_with fail
 go_ret
 exact ⟨rfl,rfl⟩
def LoadAt (ls:List (List UInt8)) (pre:List (Nat×Value)) (x:Nat×Value) (W:World):Prop:=
 x.1=pre.length∧∃(h:x.1<ls.length) (a:Option Addr) (c:Nat),x.2= .slice a ls[x.1].length c∧BytesAt W a ls[x.1]∧ls[x.1].length≤c
def encLoad (x:Nat×Value):Array Value:= #[.int .i64 (x.1:Int),x.2]
theorem grown_of_below {W W':World} (h:Below W.heap.size W W'):W.grownBy W' none:=⟨h.os,h.tape,h.output,h.size,fun k hk _=>h.block k hk⟩
theorem KeepAt.putObj {S:Nat→Prop} {W:World} {l:Nat} (o':Obj) (hS:∀x,S x→x≠l):KeepAt S W (W.putObj l o'):=⟨(grownBy_putObj' W l o').size,fun x hx=>World.putObj_heap_other (hS x hx)⟩
set_option maxRecDepth 100000 in
set_option maxHeartbeats 4000000 in
theorem each1_any (n:Nat) (h1:1≤n) (B d:Nat) (R:LogR) (bx:Nat) (w:World) (h:LogAt w B d R) (hbx:w.cell? ⟨bx,0,none⟩=some (.pointer (some ⟨R.l,0,none⟩))):
  SeqStopsM Fence.wide n Tryz.prog 107 #[.pointer (some ⟨bx,0,none⟩)] encLoad (LoadAt R.ls) (KeepAt fun x=>lfoot R x∨x=bx) (fun xs=>xs.length=R.ls.length) (fun _=>True) w:=fun l J Jx W hW hJ _ hY h0=>by
 have hbl:=World.block_lt_of_cell? w _ hbx
 have hcnt:=h.cnt
 have hlog:∀W',KeepAt (fun x=>lfoot R x∨x=bx) w W'→LogAt W' B d R:=fun W' hk=>h.keep fun x hx=>hk.2 x (.inl hx)
 have hS:∀x,(lfoot R x∨x=bx)→x<w.heap.size:=fun x hx=>hx.elim (fun hx=>(h.lt hx).2) (fun hx=>hx▸hbl)
 have hbox:∀W',KeepAt (fun x=>lfoot R x∨x=bx) w W'→W'.cell? ⟨bx,0,none⟩=some (.pointer (some ⟨R.l,0,none⟩)):=fun W' hk=>(World.cell?_of_block (a:=⟨bx,0,none⟩) (hk.2 bx (.inr rfl))).trans hbx
 refine callsIn_of_wp Tryz.func107 rfl trivial ?_ rfl
 simp only [Tryz.ntmps107,List.size_toArray,List.length_cons,List.length_nil,Nat.reduceAdd,Nat.reduceSub,Array.replicate_succ,Array.replicate_zero,List.push_toArray,List.append_toArray,List.nil_append,List.cons_append]
 have hB':W.cell? ⟨bx,0,none⟩=some (.pointer (some ⟨R.l,0,none⟩)):=(hW.cell (p:=⟨bx,0,none⟩) hbl).trans hbx
 have hlen:=len_any W B d R (h.old hW)
 gi_wp2_with (refine ⟨trivial,?_⟩;gi_at_call 108;refine (callsIn_wide.2 hlen).mono ?_;rintro e w' ⟨rfl,rfl⟩)
 clear hlen hB'
 gi_loopw [6] (fun p wr=>∃(k:Nat) (pre:List (Nat×Value)),k≤R.ls.length∧p= .int .i64 k∧pre.length=k∧J pre wr∧KeepAt (fun x=>lfoot R x∨x=bx) w wr) (fun p _=>R.ls.length-(intOf p).toNat)
 case atStart=>exact ⟨0,[],Nat.zero_le _,rfl,rfl,h0,KeepAt.below hW hS⟩
 case round=>
  obtain ⟨k,pre,hk,rfl,hpre,hJs,hbw⟩:=hrel
  by_cases hlt:k<R.ls.length
  ·have hp:wr.cell? ⟨bx,0,none⟩=some (.pointer (some ⟨R.l,0,none⟩)):=hbox _ hbw
   have hr:=hlog _ hbw
   have hb:=hr.blk.rule
   obtain ⟨A,C,e1,hown⟩:=hr.rows.2.2 k hlt
   have hvl:k<R.vs.length:=by rw [hr.rows.2.1];exact hlt
   obtain ⟨rb,ro,e2,hcell⟩:=hr.rows.1.row k hvl
   have hcell':wr.cell? ⟨rb,ro+k,none⟩=some (.slice A R.ls[k].length C):=by rw [hcell,←e1,List.getElem?_eq_getElem hvl]
   rw [e2] at hb
   have hlk:R.ls[k].length≤65536:=h.lens _ (List.getElem_mem hlt)
   have HK:=Lib.hid (show R.ls[k].length=R.ls[k].length from rfl)
   clear hcell e1 e2
   gi_wp2_with (refine ⟨trivial,?_⟩;gi_at_call 48;refine (callsIn_wide.2 (clone_any A _ C R.ls[k] wr hown.row rfl (by omega))).mono ?_;rintro e w1 ⟨a',c',rfl,hown1,hb1⟩)
   have hJ1:J pre w1:=hJ pre wr w1 none hJs (grown_of_below hb1) (fun r e=>by cases e)
   have hm1:LoadAt R.ls pre (k,.slice a' R.ls[k].length c') w1:=⟨hpre.symm,hlt,a',c',rfl,hown1.row,hown1.le⟩
   obtain ⟨fn,tmps,assign,body,hy,hR⟩:=hY pre (k,.slice a' R.ls[k].length c') w1 hJ1 hm1
   have hb01:KeepAt (fun x=>lfoot R x∨x=bx) w w1:=hbw.trans (KeepAt.below hb1 fun x hx=>Nat.lt_of_lt_of_le (hS x hx) hbw.1)
   clear hm1 hown1 hb1 hJ1 hJs
   unfold encLoad at hy
   dsimp only at hy
   gi_wp2
   rw [hy,Oper.uponIn_round]
   refine ⟨fun _=>h1,hR.mono ?_⟩
   rintro e W3 (⟨rfl,hJ3,hk3⟩|⟨rfl,hJx3⟩)
   ·gi_wp2
    go_roundw
    case rel=>exact ⟨k+1,pre++ [(k,.slice a' R.ls[k].length c')],by omega,by go_num,by simp [hpre],hJ3,hb01.trans hk3⟩
    case measure=>simp [intOf];omega
   ·gi_wp2
    refine bodyPost_ret (results_none rfl _ _ _) rfl ?_
    exact ⟨⟨_,rfl⟩,.inr ⟨_,trivial,hJx3⟩⟩
  ·obtain rfl:k=R.ls.length:=by omega
   gi_wp2
   go_end0
   exact ⟨⟨_,rfl⟩,.inl ⟨_,hpre,hJs⟩⟩
end
section
open Go Go.RowKit
variable {F:Fence} {n:Nat} {P:Program} {w:World}
def noPanic (Q:Exit→Act→World→Prop):Exit→Act→World→Prop
 | .panic _,_,_=>False
 |e,a,w=>Q e a w
theorem noPanic_mono {Q:Exit→Act→World→Prop}:∀(e:Exit) (a:Act) (w:World),noPanic Q e a w→Q e a w:=fun e a w h=>by
 cases e<;>first|exact h|exact h.elim
end
section
open Go.RowKit Go.Shelf Go.Maps
attribute [local go_sem] Oper.semAt_some
theorem wpListIn_store_round {n l:Nat} {P:Program} {w:World} {ops:Array Oper} {rest:List Oper} {o:Oper} {a:Act} {Q:Exit→Act→World→Prop} (hgd:o.guard=none) (hd:noDefer o=true) (ty:TypeId) {k:Nat} (hT:AggT P ty k) (x y:Operand) (ho:o.op= .store ty x y)
  {g o':Nat} {cells:Array Value} (hx:a.eval x= .pointer (some ⟨g,o',none⟩)) (hy:a.eval y= .agg cells) {t:TypeId} {old:Array Value} (hB:Blk w g old t) (hn:cells.size=k) (ho':o'+k≤old.size) (h1:cells.toList.all (·.oneCell')=true)
  (h:wpListIn (Fence.wide.inRound l) n P ops Q rest (a.put o.dst undef) (w.setRow g (splice old o' cells))):wpListIn (Fence.wide.inRound l) n P ops Q (o::rest) a w:=
 wpListIn_plain hgd fun K hK'=>oper_round hd (wp_store_at ty hT x y ho hx hy hB hn ho' h1 (hK' _ _ h))
theorem wpListIn_load_round {n l:Nat} {P:Program} {w:World} {ops:Array Oper} {rest:List Oper} {o:Oper} {a:Act} {Q:Exit→Act→World→Prop} (hgd:o.guard=none) (hdf:noDefer o=true) (ty:TypeId) {k:Nat} (hT:AggT P ty k) (x:Operand) (ho:o.op= .load ty x)
  {g:Nat} (hx:a.eval x= .pointer (some ⟨g,0,none⟩)) {t:TypeId} {cs:Array Value} (hB:Blk w g cs t) (hn:cs.size=k)
  (h:wpListIn (Fence.wide.inRound l) n P ops Q rest (a.put o.dst (.agg cs)) w):wpListIn (Fence.wide.inRound l) n P ops Q (o::rest) a w:=by
 obtain ⟨⟨d,hu,hd⟩,hi⟩:=hT
 exact wpListIn_plain hgd fun K hK'=>oper_round hdf (wp_load_row ty x ho g hx t cs (0,0) d hB hu (by cases d<;>simp_all [aggD]) (by rw [hi,hn]) (hK' _ _ h))
theorem blk_kept {W W':World} {row:Option Nat} {g:Nat} {cs:Array Value} {t:TypeId} (h:Blk W g cs t) (hg:W.grownBy W' row) (hr:∀r,row=some r→∃o:Obj,W.heap[r]? =some o∧o.isCells=false):W'.heap[g]? =W.heap[g]? :=grownBy_keeps_cells hg hr h rfl
section
variable {w w':World} {B:Nat} {r:DiskR} {V:VaultR}
theorem lfoot_cells {d:Nat} {R:LogR} (h:LogAt w B d R) {x:Nat} (hx:lfoot R x):∃cs t,Blk w x cs t:=by
 rcases hx with rfl|⟨ad,ha,rfl⟩|⟨ad,m,C,hm,rfl⟩
 ·exact ⟨_,_,h.blk⟩
 ·obtain ⟨_,_,cur,hb⟩:=h.rows.1.block_lt ha
  exact ⟨_,_,hb⟩
 ·obtain ⟨_,_,cur,hb⟩:=h.rows.inner hm
  exact ⟨_,_,hb⟩
theorem vrest_cells {d:Nat} (h:VaultAt w B d V) {x:Nat} (hx:vrest V x):(x=V.mg∨x=V.mb)∨∃cs t,Blk w x cs t:=by
 rcases hx with rfl|⟨ad,ha,rfl⟩|⟨ad,ha,rfl⟩|⟨y,hy,hi⟩|rfl|rfl|⟨g,hg,rfl⟩|⟨y,hy,rfl⟩
 ·exact .inr ⟨_,_,h.blk⟩
 ·obtain ⟨_,_,cur,hb⟩:=h.master.block_lt ha
  exact .inr ⟨_,_,hb⟩
 ·obtain ⟨_,_,cur,hb⟩:=h.deeds.block_lt ha
  exact .inr ⟨_,_,hb⟩
 ·obtain ⟨_,_,cur,t,hb,_⟩:=(h.each y hy).innerLt hi
  exact .inr ⟨_,_,hb⟩
 ·exact .inl (.inl rfl)
 ·exact .inl (.inr rfl)
 ·obtain ⟨_,_,cur,hb⟩:=(h.rows g hg).block_lt rfl
  exact .inr ⟨_,_,hb⟩
 ·exact .inr ⟨_,_,(h.boxes y hy).2.2⟩
theorem foot_cells (h:DiskAt w B r) {x:Nat} (hx:foot r x):x=r.m∨∃cs t,Blk w x cs t:=by
 rcases hx with rfl|rfl|⟨f,hf,rfl|hx⟩|hx
 ·exact .inr ⟨_,_,h.blk⟩
 ·exact .inl rfl
 ·exact .inr ⟨_,_,(h.files f hf).blk⟩
 ·obtain ⟨_,_,cur,hb⟩:=(h.files f hf).row.lt hx
  exact .inr ⟨_,_,hb⟩
 ·rw [Option.map_eq_some_iff] at hx
  obtain ⟨a,ha,rfl⟩:=hx
  obtain ⟨_,_,cur,hb⟩:=h.plan.block_lt ha
  exact .inr ⟨_,_,hb⟩
theorem VL.grown (h:VL w B r V) {C:Nat} (hm:r.m<C∧V.mg<C∧V.mb<C) {row:Option Nat} (hg:w.grownBy w' row) (hr:∀q,row=some q→C≤q∧∃o:Obj,w.heap[q]? =some o∧o.isCells=false):VL w' B r V:=h.keep fun x hx=>by
 have hlt:=(h.lt hx).2
 have cellsKeep:(∃cs t,Blk w x cs t)→w'.heap[x]? =w.heap[x]? :=fun ⟨cs,t,hb⟩=>blk_kept hb hg fun q e=>(hr q e).2
 have mapKeep:x<C→w'.heap[x]? =w.heap[x]? :=fun hx=>hg.block x hlt fun e=>by have:=(hr x e.symm).1;omega
 rcases hx with hx|hx|hx
 ·rcases foot_cells h.disk hx with rfl|hc
  ·exact mapKeep hm.1
  ·exact cellsKeep hc
 ·exact cellsKeep (lfoot_cells h.vault.log hx)
 ·rcases vrest_cells h.vault hx with (rfl|rfl)|hc
  ·exact mapKeep hm.2.1
  ·exact mapKeep hm.2.2
  ·exact cellsKeep hc
end
structure OpS (B:Nat) (w:World) (r0 r:DiskR) (R:LogR) (m:List UInt8) (P A H X C:Nat) (ls:List (List UInt8)) (wh:Bool) (ka k:Nat) (V:VaultR) (W:World):Prop where
 vl:VL W B r V
 ptr:Blk W P #[.pointer (some ⟨V.v,0,none⟩)] 28
 at':Blk W A #[.int .i64 ((records (ls.take ka)).length:Int)] 3
 wh':Blk W H #[.bool wh] 4
 eqs:V.R=R∧V.m=m∧V.down=false
 maps:r.m<C∧V.mg<C∧V.mb<C
 new:∀x,afoot r V x→foot r0 x∨w.heap.size≤x
 newR:∀x,vrest V x→w.heap.size≤x
 sep:∀x,afoot r V x→x≠P∧x≠A∧x≠H∧x≠X
 len:V.l.length=k
 scan:Hid (scanV m [] ls=scanV m V.l (ls.drop k))
 turn:Turn (foot r0) w W
 big:C≤W.heap.size∧P<C∧A<C∧H<C∧X<C
theorem OpS.grown {B:Nat} {w:World} {r0 r:DiskR} {R:LogR} {m:List UInt8} {P A H X C:Nat} {ls:List (List UInt8)} {wh:Bool} {ka k:Nat} {V:VaultR} {Y Z:World} (h:OpS B w r0 r R m P A H X C ls wh ka k V Y) (hC:w.heap.size≤C) {row:Option Nat} (hg:Y.grownBy Z row) (hr:∀q,row=some q→C≤q∧∃o:Obj,Y.heap[q]? =some o∧o.isCells=false):OpS B w r0 r R m P A H X C ls wh ka k V Z:=by
 have hr':∀r,row=some r→∃o:Obj,Y.heap[r]? =some o∧o.isCells=false:=fun r e=>(hr r e).2
 exact ⟨h.vl.grown h.maps hg hr,(blk_kept h.ptr hg hr').trans h.ptr,(blk_kept h.at' hg hr').trans h.at',(blk_kept h.wh' hg hr').trans h.wh',h.eqs,h.maps,h.new,h.newR,h.sep,h.len,h.scan,
   h.turn.trans (G:=fun x=>row=some x) ⟨hg.os,hg.tape,hg.output,hg.size,fun k hk hF=>hg.block k hk fun e=>hF e.symm⟩ (fun k e=> .inr (by have:=(hr k e).1;omega)),Nat.le_trans h.big.1 hg.size,h.big.2⟩
theorem OpS.own (B:Nat) (w:World) (r0 r:DiskR) (R:LogR) (m:List UInt8) (P A H X C:Nat) (ls:List (List UInt8)) (wh:Bool) (hC:w.heap.size≤C) {α:Type} (f:α→Nat):OwnFrom C (fun (s:α) W=>∃V,OpS B w r0 r R m P A H X C ls wh (f s) (f s) V W):=
 fun s Y Z row hs hg hr=>by
  obtain ⟨V,h⟩:=hs
  exact ⟨V,h.grown hC hg hr⟩
section
variable {B:Nat} {w:World} {r0 r:DiskR} {R:LogR} {m:List UInt8} {P A H X C:Nat} {ls:List (List UInt8)} {wh:Bool} {ka k:Nat} {V V':VaultR} {W W':World}
theorem OpS.only (h:OpS B w r0 r R m P A H X C ls wh ka k V W) (hs:VOnly B r.d W V W' V') (hm:V'.mg=V.mg∧V'.mb=V.mb) {k':Nat} (hl:V'.l.length=k') (hsc:Hid (scanV m [] ls=scanV m V'.l (ls.drop k'))) (hw:w.heap.size≤W.heap.size):OpS B w r0 r R m P A H X C ls wh ka k' V' W':=by
 have hst:=hs.step h.vl
 have hP:∀y,y=P∨y=A∨y=H∨y=X→y<W.heap.size→W'.heap[y]? =W.heap[y]? :=fun y hy hlt=>hst.turn.block y hlt fun hF=>by
  have:=h.sep y hF
  rcases hy with rfl|rfl|rfl|rfl
  ·exact this.1 rfl
  ·exact this.2.1 rfl
  ·exact this.2.2.1 rfl
  ·exact this.2.2.2 rfl
 refine ⟨hst.at',?_,?_,?_,⟨hs.R.trans h.eqs.1,hs.m.trans h.eqs.2.1,hs.down.trans h.eqs.2.2⟩,by rw [hm.1,hm.2];exact h.maps,fun x hx=> ?_,fun x hx=> ?_,fun x hx=> ?_,hl,hsc,h.turn.trans hst.turn h.new,Nat.le_trans h.big.1 hs.turn.size,h.big.2⟩
 ·rw [hs.v]
  exact (hP P (.inl rfl) h.ptr.lt).trans h.ptr
 ·exact (hP A (.inr (.inl rfl)) h.at'.lt).trans h.at'
 ·exact (hP H (.inr (.inr (.inl rfl))) h.wh'.lt).trans h.wh'
 ·rcases hst.foot' x hx with h1|h1
  ·exact h.new x h1
  ·exact .inr (by omega)
 ·rcases hs.foot' x hx with h1|h1
  ·exact h.newR x h1
  ·omega
 ·rcases hst.foot' x hx with h1|h1
  ·exact h.sep x h1
  ·have:=h.big
   refine ⟨?_,?_,?_,?_⟩<;>omega
theorem OpS.old (h:OpS B w r0 r R m P A H X C ls wh ka k V W) (hb:Below W.heap.size W W'):OpS B w r0 r R m P A H X C ls wh ka k V W':=
 ⟨h.vl.old hb,h.ptr.old hb,h.at'.old hb,h.wh'.old hb,h.eqs,h.maps,h.new,h.newR,h.sep,h.len,h.scan,h.turn.trans (Turn.of_below (F:=foot r0) hb) fun _ h=> .inl h,Nat.le_trans h.big.1 hb.size,h.big.2⟩
theorem OpS.setAt (h:OpS B w r0 r R m P A H X C ls wh ka k V W) (hA:w.heap.size≤A) (hne:A≠P∧A≠H) {v:Int} {k':Nat} (hv:v=((records (ls.take k')).length:Int)):OpS B w r0 r R m P A H X C ls wh k' k V (W.setCell ⟨A,0,none⟩ (.int .i64 v)):=by
 subst hv
 have ho:∀x,x≠A→(W.setCell ⟨A,0,none⟩ (.int .i64 ((records (ls.take k')).length:Int))).heap[x]? =W.heap[x]? :=fun x hx=>heap_setCell_other W ⟨A,0,none⟩ x _ hx
 exact ⟨h.vl.keep fun x hx=>ho x (h.sep x hx).2.1,(ho P (fun e=>hne.1 e.symm)).trans h.ptr,h.at'.set 0 _,(ho H (fun e=>hne.2 e.symm)).trans h.wh',h.eqs,h.maps,h.new,h.newR,h.sep,h.len,h.scan,h.turn.setCell (x:=⟨A,0,none⟩) (.inr hA) _,by simpa [World.setCell] using h.big⟩
theorem OpS.setWh (h:OpS B w r0 r R m P A H X C ls wh ka k V W) (hH:w.heap.size≤H) (hne:H≠P∧H≠A) (b:Bool):OpS B w r0 r R m P A H X C ls b ka k V (W.setCell ⟨H,0,none⟩ (.bool b)):=by
 have ho:∀x,x≠H→(W.setCell ⟨H,0,none⟩ (.bool b)).heap[x]? =W.heap[x]? :=fun x hx=>heap_setCell_other W ⟨H,0,none⟩ x _ hx
 exact ⟨h.vl.keep fun x hx=>ho x (h.sep x hx).2.2.1,(ho P (fun e=>hne.1 e.symm)).trans h.ptr,(ho A (fun e=>hne.2 e.symm)).trans h.at',h.wh'.set 0 _,h.eqs,h.maps,h.new,h.newR,h.sep,h.len,h.scan,h.turn.setCell (x:=⟨H,0,none⟩) (.inr hH) _,by simpa [World.setCell] using h.big⟩
end
theorem vrest_bl {V:VaultR} {bl:List (Nat×Nat)} {y:Nat} (h:vrest {V with bl:=bl} y):vrest V y∨∃z∈bl,y=z.2:=by
 rcases h with hx|hx|hx|hx|hx|hx|hx|hx
 ·exact .inl (.inl hx)
 ·exact .inl (.inr (.inl hx))
 ·exact .inl (.inr (.inr (.inl hx)))
 ·exact .inl (.inr (.inr (.inr (.inl hx))))
 ·exact .inl (.inr (.inr (.inr (.inr (.inl hx)))))
 ·exact .inl (.inr (.inr (.inr (.inr (.inr (.inl hx))))))
 ·exact .inl (.inr (.inr (.inr (.inr (.inr (.inr (.inl hx)))))))
 ·exact .inr hx
section
variable {B:Nat} {w:World} {r0 r:DiskR} {R:LogR} {m:List UInt8} {P A H X C:Nat} {ls:List (List UInt8)} {wh:Bool} {ka k:Nat} {V V':VaultR} {W W':World}
theorem OpS.keeps (h:OpS B w r0 r R m P A H X C ls wh ka k V W) (ht:Turn (vrest V) W W'):KeepsFrom C W W':=
 ⟨ht.size,fun q o hq h1 h2=>by
  have hlt:q<W.heap.size:=(Array.getElem?_eq_some_iff.1 h1).1
  refine (ht.block q hlt fun hv=> ?_).trans h1
  rcases vrest_cells h.vl.vault hv with (rfl|rfl)|⟨cs,t,hb⟩
  ·have:=h.maps.2.1;omega
  ·have:=h.maps.2.2;omega
  ·have hb':W.heap[q]? =_:=hb
   rw [h1] at hb'
   cases hb'
   cases h2⟩
theorem OpS.kpAt (h:OpS B w r0 r R m P A H X C ls wh ka k V W) (ht:Turn (vrest V) W W'):KeepAt (fun y=>lfoot R y∨y=X) W W':=
 ⟨ht.size,fun y hy=>by
  rcases hy with hy|rfl
  ·have hy':lfoot V.R y:=by rw [h.eqs.1];exact hy
   exact ht.block y (h.vl.vault.log.lt hy').2 fun hv=>h.vl.vault.sepl y hv hy'
  ·exact ht.block y (by have:=h.big;omega) fun hv=>(h.sep y (.inr (.inr hv))).2.2.2 rfl⟩
theorem OpS.kpOld (h:OpS B w r0 r R m P A H X C ls wh ka k V W) (hb:Below W.heap.size W W'):KeepAt (fun y=>lfoot R y∨y=X) W W':=KeepAt.below hb fun y hy=>by
 rcases hy with hy|rfl
 ·exact (h.vl.vault.log.lt (by rw [h.eqs.1];exact hy)).2
 ·have:=h.big;omega
theorem keeps_below (hb:Below W.heap.size W W'):KeepsFrom C W W':=⟨hb.size,fun q o _ h1 _=>(hb.block q (Array.getElem?_eq_some_iff.1 h1).1).trans h1⟩
theorem OpS.failed (h:OpS B w r0 r R m P A H X C ls wh ka k V W) (hk:k<ls.length) (hu:(unloadV V.m V.l ls[k]).2=false):Hid (k<ls.length∧(scanV m [] ls).length=k):=by
 have hs:=h.scan.out
 rw [List.drop_eq_getElem_cons hk,scanV,←h.eqs.2.1,hu] at hs
 exact Lib.hid ⟨hk,by rw [←h.eqs.2.1,hs];exact h.len⟩
theorem OpS.next (h:OpS B w r0 r R m P A H X C ls wh ka k V W) (hk:k<ls.length) {x:DeedP} (hx:(unloadV V.m V.l ls[k]).1=x) (hu:(unloadV V.m V.l ls[k]).2=true):Hid (scanV m [] ls=scanV m (V.l++ [x]) (ls.drop (k+1))):=by
 have hs:=h.scan.out
 rw [List.drop_eq_getElem_cons hk,scanV,←h.eqs.2.1,hu,hx,if_pos rfl] at hs
 rw [←h.eqs.2.1]
 exact Lib.hid hs
end
def vault0 (v:Nat) (ma:Option Addr) (mc:Nat) (m:List UInt8) (R:LogR) (mg mb:Nat):VaultR:=⟨v,ma,mc,m,R,none,0,[],mg,fun _=>0,fun _=>0,mb,[],false⟩
theorem new_vault {w:World} {B B':Nat} {r:DiskR} {R:LogR} (h:DL w B r R) (hB:B≤w.heap.size) {ka:Option Addr} {mn kc:Nat} {m:List UInt8} (hm:m.length=mn) (hz:mn≤1000000) (ho:Own w B' 5 1 ka mn kc (m.map bv)) (hBB:B≤B') (hka:∀ad,ka=some ad→¬(foot r ad.block∨lfoot R ad.block)):
  VL (((w.alloc (.map #[] 0)).alloc (.map #[] 0)).alloc (.cells #[.slice ka mn kc,.pointer (some ⟨R.l,0,none⟩),.slice none 0 0,.map (some w.heap.size),.map (some (w.heap.size+1)),.bool false] 93)) B r (vault0 (w.heap.size+1+1) ka kc m R w.heap.size (w.heap.size+1)):=by
 subst hm
 have hb:Below w.heap.size w (((w.alloc (.map #[] 0)).alloc (.map #[] 0)).alloc (.cells #[.slice ka m.length kc,.pointer (some ⟨R.l,0,none⟩),.slice none 0 0,.map (some w.heap.size),.map (some (w.heap.size+1)),.bool false] 93)):=(((Below.refl _ _).alloc (Nat.le_refl _) _).alloc (by simp) _).alloc (by simp;omega) _
 have hdl:=h.old hb
 have hvr:∀x,vrest (vault0 (w.heap.size+1+1) ka kc m R w.heap.size (w.heap.size+1)) x→w.heap.size≤x∨atB ka x:=by
  intro x hx
  rcases hx with rfl|hx|⟨ad,ha,rfl⟩|⟨y,hy,hi⟩|rfl|rfl|⟨g,hg,rfl⟩|⟨y,hy,rfl⟩
  ·exact .inl (by simp [vault0];omega)
  ·exact .inr hx
  ·cases ha
  ·cases hy
  ·exact .inl (by simp [vault0])
  ·exact .inl (by simp [vault0])
  ·exact absurd hg (Nat.not_lt_zero _)
  ·cases hy
 have hap:∀x,vrest (vault0 (w.heap.size+1+1) ka kc m R w.heap.size (w.heap.size+1)) x→¬(foot r x∨lfoot R x):=fun x hx hf=>by
  rcases hvr x hx with q|⟨ad,ha,rfl⟩
  ·have:=(h.lt hf).2;omega
  ·exact hka ad ha hf
 refine ⟨hdl.disk,⟨⟨by simp [vault0];omega,hB,by simp [vault0];omega,by simp [vault0]⟩,?_,(ho.lower hBB).old hb,hz,hdl.log,Own.nil _ _ _ _,(fun x hx=>by cases hx),?_,(fun g hg=>absurd hg (Nat.not_lt_zero _)),(fun g g' hg=>absurd hg (Nat.not_lt_zero _)),(fun g hg=>absurd hg (Nat.not_lt_zero _)),?_,(fun y hy=>by cases hy),fun x hx hl=>hap x hx (.inr hl),GoodD.nil,Nat.zero_le _⟩,fun x hx hf=> ?_⟩
 ·have e:((w.alloc (.map #[] 0)).alloc (.map #[] 0)).heap.size=w.heap.size+1+1:=by simp
  have:=Blk.new ((w.alloc (.map #[] 0)).alloc (.map #[] 0)) #[.slice ka m.length kc,.pointer (some ⟨R.l,0,none⟩),.slice none 0 0,.map (some w.heap.size),.map (some (w.heap.size+1)),.bool false] 93
  rw [e] at this
  exact this
 ·refine (GMap.made w Tryz.prog 3 Rs).keep ?_
  exact (Below.heap_alloc _ _ _ (by simp;omega)).trans (Below.heap_alloc _ _ _ (by simp))
 ·have h2:=GMap.made (w.alloc (.map #[] 0)) Tryz.prog 3 Rb
  have e:(w.alloc (.map #[] 0)).heap.size=w.heap.size+1:=by simp
  rw [e] at h2
  exact h2.keep (Below.heap_alloc _ _ _ (by simp))
 ·rcases hx with hx|hx
  ·exact h.apart x hx hf
  ·exact hap x hx (.inl hf)
theorem afoot_obj {w:World} {B:Nat} {r:DiskR} {V:VaultR} (h:VL w B r V) {x:Nat} (hx:afoot r V x):(∃es clock,w.heap[x]? =some (.map es clock))∨∃cs t,Blk w x cs t:=by
 rcases hx with hx|hx|hx
 ·rcases foot_cells h.disk hx with rfl|hc
  ·exact .inl h.disk.map.obj
  ·exact .inr hc
 ·exact .inr (lfoot_cells h.vault.log hx)
 ·rcases vrest_cells h.vault hx with (rfl|rfl)|hc
  ·exact .inl h.vault.gm.obj
  ·exact .inl h.vault.bm.obj
  ·exact .inr hc
structure OpT (B:Nat) (w:World) (r0 r:DiskR) (P A D at_:Nat) (V:VaultR) (W:World):Prop where
 vl:VL W B r V
 ptr:Blk W P #[.pointer (some ⟨V.v,0,none⟩)] 28
 at':Blk W A #[.int .i64 (at_:Int)] 3
 dfr:W.heap[D]? =some (.deferred (some []))
 new:∀x,afoot r V x→foot r0 x∨w.heap.size≤x
 newR:∀x,vrest V x→w.heap.size≤x
 sep:∀x,afoot r V x→x≠P∧x≠A∧x≠D
 turn:Turn (foot r0) w W
section
variable {B:Nat} {w:World} {r0 r r':DiskR} {P A D at_:Nat} {V V':VaultR} {W W':World}
theorem OpS.toT {R:LogR} {m:List UInt8} {H X C:Nat} {ls:List (List UInt8)} {wh:Bool} {ka k:Nat} (h:OpS B w r0 r R m P A H X C ls wh ka k V W) (hd:W.heap[D]? =some (.deferred (some []))) (ha:(records (ls.take ka)).length=at_):OpT B w r0 r P A D at_ V W:=by
 subst ha
 refine ⟨h.vl,h.ptr,h.at',hd,h.new,h.newR,fun x hx=>⟨(h.sep x hx).1,(h.sep x hx).2.1,fun e=> ?_⟩,h.turn⟩
 subst e
 rcases afoot_obj h.vl hx with ⟨es,clock,hm⟩|⟨cs,t,hb⟩
 ·rw [hd] at hm;cases hm
 ·have hb':W.heap[x]? =_:=hb
  rw [hd] at hb';cases hb'
theorem OpT.old (h:OpT B w r0 r P A D at_ V W) (hb:Below W.heap.size W W'):OpT B w r0 r P A D at_ V W':=
 ⟨h.vl.old hb,h.ptr.old hb,h.at'.old hb,(hb.block D (Array.getElem?_eq_some_iff.1 h.dfr).1).trans h.dfr,h.new,h.newR,h.sep,h.turn.trans (Turn.of_below (F:=foot r0) hb) fun _ h=> .inl h⟩
theorem OpT.step (h:OpT B w r0 r P A D at_ V W) (hs:VStep B W r V W' r' V') (hR:∀x,vrest V' x→vrest V x∨W.heap.size≤x):OpT B w r0 r' P A D at_ V' W':=by
 have hw:=h.turn.size
 have hP:∀y,y=P∨y=A∨y=D→y<W.heap.size→W'.heap[y]? =W.heap[y]? :=fun y hy hlt=>hs.turn.block y hlt fun hF=>by
  have:=h.sep y hF
  rcases hy with rfl|rfl|rfl
  ·exact this.1 rfl
  ·exact this.2.1 rfl
  ·exact this.2.2 rfl
 have hDl:D<W.heap.size:=(Array.getElem?_eq_some_iff.1 h.dfr).1
 refine ⟨hs.at',?_,(hP A (.inr (.inl rfl)) h.at'.lt).trans h.at',(hP D (.inr (.inr rfl)) hDl).trans h.dfr,fun x hx=> ?_,fun x hx=> ?_,fun x hx=> ?_,h.turn.trans hs.turn h.new⟩
 ·rw [hs.v]
  exact (hP P (.inl rfl) h.ptr.lt).trans h.ptr
 ·rcases hs.foot' x hx with q|q
  ·exact h.new x q
  ·exact .inr (by omega)
 ·rcases hR x hx with q|q
  ·exact h.newR x q
  ·omega
 ·rcases hs.foot' x hx with q|q
  ·exact h.sep x q
  ·have:=h.ptr.lt
   have:=h.at'.lt
   refine ⟨?_,?_,?_⟩<;>omega
theorem VL.defer (h:VL W B r V) (hd:W.heap[D]? =some (.deferred (some []))) (o:Obj):VL (W.putObj D o) B r V:=h.keep fun x hx=>World.putObj_heap_other fun e=>by
 subst e
 rcases afoot_obj h hx with ⟨es,clock,hm⟩|⟨cs,t,hb⟩
 ·rw [hd] at hm;cases hm
 ·have hb':W.heap[x]? =_:=hb
  rw [hd] at hb';cases hb'
theorem DiskAt.defer (h:DiskAt W B r) (hd:W.heap[D]? =some (.deferred (some []))) (o:Obj):DiskAt (W.putObj D o) B r:=h.keep fun x hx=>World.putObj_heap_other fun e=>by
 subst e
 rcases foot_cells h hx with rfl|⟨cs,t,hb⟩
 ·obtain ⟨es,clock,hm⟩:=h.map.obj
  rw [hd] at hm;cases hm
 ·have hb':W.heap[x]? =_:=hb
  rw [hd] at hb';cases hb'
theorem Turn.defer {F:Nat→Prop} (h:Turn F w W) (hD:w.heap.size≤D) (o:Obj):Turn F w (W.putObj D o):=by
 have hg:=grownBy_putObj' W D o
 exact ⟨hg.os.trans h.os,hg.tape.trans h.tape,hg.output.trans h.output,Nat.le_trans h.size hg.size,fun k hk hF=>(World.putObj_heap_other (by omega)).trans (h.block k hk hF)⟩
end
theorem relog {B:Nat} {w w':World} {r r':DiskR} {V:VaultR} {R':LogR} (h:VL w B r V) (hs:DStep B w r w' r') (hd:DL w' B r' R') (hf:∀x,lfoot R' x→w.heap.size≤x) (hc:V.ds.length≤R'.ls.length):
  VStep B w r V (w'.setCell ⟨V.v,1,none⟩ (.pointer (some ⟨R'.l,0,none⟩))) r' {V with R:=R'}:=by
 have hst:=DStep.vault hs h
 have ha:=hst.at'.vault
 have ho:∀x,x≠V.v→(w'.setCell ⟨V.v,1,none⟩ (.pointer (some ⟨R'.l,0,none⟩))).heap[x]? =w'.heap[x]? :=fun x hx=>heap_setCell_other w' ⟨V.v,1,none⟩ x _ hx
 have hvr:∀x,vrest {V with R:=R'} x↔vrest V x:=fun x=>Iff.rfl
 have hvl:∀x,vrest V x→x<w.heap.size:=fun x hx=>(h.vault.ltR hx).2
 have hvv:vrest V V.v:= .inl rfl
 have hlv:∀x,lfoot R' x→x≠V.v:=fun x hx e=>by have:=hf x hx;have:=hvl _ hvv;omega
 have hfv:∀x,foot r' x→x≠V.v:=fun x hx e=>hst.at'.apart V.v (.inr hvv) (e▸hx)
 have hcell:∀x cs t,Blk w' x cs t→t≠93→x≠V.v:=fun x cs t hb ht=>hb.ne ha.blk ht
 have hat:VaultAt (w'.setCell ⟨V.v,1,none⟩ (.pointer (some ⟨R'.l,0,none⟩))) B r'.d {V with R:=R'}:=by
  refine ⟨ha.ge,?_,ha.master.keepAt fun x hx=> ?_,ha.mz,hd.log.keep fun x hx=>ho x (hlv x hx),ha.deeds.keepAt fun x hx=> ?_,fun x hx=>(ha.each x hx).keepB fun y hy=> ?_,ha.gm.keep (ho _ fun e=>ha.blk.ne_gmap ha.gm e.symm),
   fun g hg=>(ha.rows g hg).keepAt fun x hx=> ?_,ha.sepf,ha.sepi,ha.bm.keep (ho _ fun e=>ha.blk.ne_gmap ha.bm e.symm),fun y hy=>⟨(ha.boxes y hy).1,(ha.boxes y hy).2.1,(ho _ (hcell _ _ _ (ha.boxes y hy).2.2 (by decide))).trans (ha.boxes y hy).2.2⟩,fun x hx hl=> ?_,ha.good,hc⟩
  ·have:=ha.blk.set 1 (.pointer (some ⟨R'.l,0,none⟩))
   simpa [vaultCells] using this
  ·obtain ⟨_,_,cur,hb⟩:=ha.master.block_lt hx
   exact ho _ (hcell _ _ _ hb (by decide))
  ·obtain ⟨_,_,cur,hb⟩:=ha.deeds.block_lt hx
   exact ho _ (hcell _ _ _ hb (by decide))
  ·obtain ⟨_,_,cur,t,hb,ht⟩:=(ha.each x hx).innerLt hy
   exact ho _ (hcell _ _ _ hb (by rcases ht with rfl|rfl<;>decide))
  ·obtain ⟨_,_,cur,hb⟩:=(ha.rows g hg).block_lt hx
   exact ho _ (hcell _ _ _ hb (by decide))
  ·have:=hvl x hx
   have:=hf x hl
   omega
 refine ⟨hst.turn.setCell (x:=⟨V.v,1,none⟩) (.inl (.inr (.inr hvv))) _,⟨hd.disk.keep fun x hx=>ho x (hfv x hx),hat,fun x hx hfx=> ?_⟩,fun x hx=> ?_,hst.d,rfl,rfl⟩
 ·rcases hx with hx|hx
  ·exact hd.apart x hx hfx
  ·exact hst.at'.apart x (.inr hx) hfx
 ·rcases hx with hx|hx|hx
  ·exact hst.foot' x (.inl hx)
  ·exact .inr (hf x hx)
  ·exact .inl (.inr (.inr hx))
end
end Go.Proofs.YtioigihakjlopaaGreat
