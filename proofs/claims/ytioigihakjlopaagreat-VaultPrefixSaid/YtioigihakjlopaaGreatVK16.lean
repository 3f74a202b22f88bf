/- Texts put together and cut to what is used: ImWhole. -/
import Derived.Test.YtioigihakjlopaaGreatVK13
import Derived.Defers
import Derived.Recover
namespace Go.Proofs.YtioigihakjlopaaGreat
set_option linter.unusedVariables false
set_option linter.unusedSimpArgs false
section
open Go.RowKit
set_option maxRecDepth 20000
theorem actionT:AggT Tryz.prog 38 6:=⟨⟨_,Tryz.underlying38,rfl⟩,by kernel_rfl⟩
theorem setRow_same {w:World} {g:Nat} {cs:Array Value} {t:TypeId} (h:Blk w g cs t):w.setRow g cs=w:=by
 have e:(w.setRow g cs).heap=w.heap:=by
  apply Array.ext_getElem?
  intro i
  by_cases hi:i=g
  ·subst hi
   have h1:w.heap[i]? =_:=h
   rw [setRow_heap w i cs cs t (0,0) h1,h1]
  ·exact Go.setRow_other _ _ _ _ hi
 have:w.setRow g cs={w with heap:=(w.setRow g cs).heap}:=rfl
 rw [this,e]
theorem asWrong (v:Value) (w:World):(Instr.typeAssert (.iface 218 v) 20 218 true).run Tryz.prog w= .ok (.tuple #[v,.bool true]) w:=by kernel_rfl
def nilSl:Sl:=⟨none,0,0⟩
theorem catchA_idle (zb xb ab eb:Nat) (w:World):
  CallsD Tryz.prog 152 #[.pointer (some ⟨zb,0,none⟩),.pointer (some ⟨xb,0,none⟩),.pointer (some ⟨ab,0,none⟩),.pointer (some ⟨eb,0,none⟩)] .returning w fun e u' w'=>
   e= .returned (.tuple #[])∧u'= .returning∧w'=w:=by
 refine callsD_of_wpS Tryz.func152 rfl fun c₀ cs hu=> ?_
 apply wpS_seq
 apply wpS_region
 simp [wpOpsS,go_sem,recoverD,hu,Tryz.ntmps152,Exit.thenS]
 refine wpS_of_wp ?_
 go_wp2_with fail
 cases c₀
 simp_all [bodyPostS,results,Tryz.results152]
set_option maxHeartbeats 2000000 in
theorem catchA_panic (zb xb ab eb p:Nat) (older:List PanicEntry) (zs cs0:Array Value) (a0 e0:Int) (w:World) (hz:Blk w zb zs 38) (hx:Blk w xb cs0 38) (ha:Blk w ab #[.int .i64 a0] 3) (he:Blk w eb #[.int .i64 e0] 29) (hzs:zs.size=6) (hcs:cs0.size=6) (hone:zs.toList.all (·.oneCell')=true) (hxz:xb≠zb):
  CallsD Tryz.prog 152 #[.pointer (some ⟨zb,0,none⟩),.pointer (some ⟨xb,0,none⟩),.pointer (some ⟨ab,0,none⟩),.pointer (some ⟨eb,0,none⟩)] (.panicking ({v:= .iface 218 (.agg #[.int .i64 (p:Int)]),recovered:=false}::older)) w fun e u' w'=>
   e= .returned (.tuple #[])∧u'= .panicking ({v:= .iface 218 (.agg #[.int .i64 (p:Int)]),recovered:=true}::older)∧Blk w' xb zs 38∧Blk w' ab #[.int .i64 (p:Int)] 3∧Blk w' eb #[.int .i64 180] 29∧Turn (fun x=>x=xb∨x=ab∨x=eb) w w':=by
 refine callsD_of_wpS Tryz.func152 rfl fun c₀ cs hu=> ?_
 apply wpS_seq
 apply wpS_region
 simp [wpOpsS,go_sem,recoverD,hu,Tryz.ntmps152,Exit.thenS]
 refine wpS_of_wp ?_
 have htm: #[Value.pointer (some ⟨zb,0,none⟩),.pointer (some ⟨xb,0,none⟩),.pointer (some ⟨ab,0,none⟩),.pointer (some ⟨eb,0,none⟩)]++(Array.replicate 12 undef).setIfInBounds 3 (.iface 218 (.agg #[.int .i64 (p:Int)]))= #[.pointer (some ⟨zb,0,none⟩),.pointer (some ⟨xb,0,none⟩),.pointer (some ⟨ab,0,none⟩),.pointer (some ⟨eb,0,none⟩),undef,undef,undef,.iface 218 (.agg #[.int .i64 (p:Int)]),undef,undef,undef,undef,undef,undef,undef,undef]:=rfl
 rw [htm]
 clear htm
 have hta:=asWrong
 go_upto_region 7 with (fail)
 obtain ⟨Y,hY⟩:∃Y,Y=w.heap.size:=⟨_,rfl⟩
 rw [←hY]
 refine wp_forget (fun W=>Blk W Y #[.int .i64 (p:Int)] 218∧Below w.heap.size w W) ⟨by rw [hY];exact Blk.new w _ _,by (try unfold Kept);repeat (first|assumption|exact Below.refl _ _|exact below_undrew (Below.refl _ _)|exact Below.mono (by assumption) (by first|(simp;done)|(simp;omega)|omega)|refine below_setRow ?_ (by first|(simp;done)|(simp;omega)|omega) _|refine Below.setCell ?_ (by first|(simp;done)|(simp;omega)|omega) _|refine Below.alloc ?_ (by first|(simp;done)|(simp;omega)|omega) _|refine below_drewN ?_ _|refine Below.drew ?_|refine below_undrew ?_|refine below_step ?_ (by assumption))⟩ ?_
 rintro w1 ⟨hy1,hb1⟩
 have hz1:=hz.old hb1
 have hx1:=hx.old hb1
 have ha1:=ha.old hb1
 have he1:=he.old hb1
 have hzx:xb<w.heap.size:=hx.lt
 have hza:ab<w.heap.size:=ha.lt
 have hze:eb<w.heap.size:=he.lt
 have hax:ab≠xb:=ha.ne hx (by decide)
 have hex:eb≠xb:=he.ne hx (by decide)
 have hea:eb≠ab:=he.ne ha (by decide)
 have hYw:w.heap.size≤Y:=by omega
 have haz:ab≠zb:=ha.ne hz (by decide)
 have hez:eb≠zb:=he.ne hz (by decide)
 clear hY
 refine wp_region_treeR false (KeepAt (fun x=>x=zb∨x=Y)) (KeepAt.refl _) (fun _ _ _ h1 h2=>KeepAt.trans h1 h2) (.step 0 (.step 1 (.step 2 (.step 3 (.step 4 (.step 5 .done)))))) (by kernel_rfl) (by kernel_rfl) (fun c a d v w h=>by cases d<;>exact h) ?_
 have kz:∀W,KeepAt (fun x=>x=zb∨x=Y) w1.drew W→Blk W zb zs 38:=fun W hW=>(hW.2 _ (.inl rfl)).trans hz1
 have ky:∀W,KeepAt (fun x=>x=zb∨x=Y) w1.drew W→∀i,W.cell? ⟨Y,i,none⟩= #[Value.int .i64 (p:Int)][i]? :=fun W hW=>(show Blk W Y _ _ from (hW.2 _ (.inr rfl)).trans hy1).rule
 refine tree_quiet (v:= .agg zs) rfl rfl (by rfl) (fun W hW=>exec_load_as 38 actionT _ rfl rfl (cs:=zs.toList) rfl (fun j hj=>by rw [Nat.zero_add,(kz W hW).rule j];simp at hj;simp [hj]) (by simpa using hzs)) ?_
 simp only [Act.put,List.setIfInBounds_toArray,List.set]
 repeat (first|(refine tree_skip rfl (by rfl) ?_;simp only [Act.put,List.setIfInBounds_toArray,List.set])|(refine tree_quiet (v:= ?_) rfl rfl (by rfl) ?_ ?_;rotate_left;(intro W hW;go_simp);(try with_reducible rfl);simp only [Act.put,List.setIfInBounds_toArray,List.set]))
 refine tree_loud rfl rfl (by rfl) (fun K hK=> ?_)
 refine wp_store_at 38 actionT _ _ rfl rfl rfl hx1.drew hzs (by omega) hone ?_
 have hx2:=hx1.drew.setRow (splice cs0 0 zs)
 have hb2:∀x,x≠xb→(w1.drew.setRow xb (splice cs0 0 zs)).heap[x]? =w1.heap[x]? :=fun x hx=>Go.setRow_other _ _ _ _ hx
 obtain ⟨w2,hw2⟩:∃W,W=w1.drew.setRow xb (splice cs0 0 zs):=⟨_,rfl⟩
 rw [←hw2] at hx2 hb2⊢
 have hz2:w1.heap.size≤w2.heap.size:=by rw [hw2];simp [World.setRow]
 have ht2:Turn (fun x=>x=xb∨x=ab∨x=eb) w w2:=by
  refine ⟨?_,?_,?_,Nat.le_trans hb1.size hz2,fun k hk hf=>(hb2 k fun e=>hf (.inl e)).trans (hb1.block k hk)⟩
  ·rw [hw2];exact hb1.os
  ·rw [hw2];exact hb1.tape
  ·rw [hw2];exact hb1.output
 have hsp:splice cs0 0 zs=zs:=by
  unfold splice
  rw [List.take_zero,List.nil_append,List.drop_of_length_le (by rw [Array.length_toList];omega),List.append_nil]
 rw [hsp] at hx2
 refine hK _ _ ⟨hz2,fun x hx=>hb2 x (by rcases hx with rfl|rfl;exact Ne.symm hxz;omega)⟩ ?_
 clear hK K hw2 kz ky hta
 have ha2:Blk w2 ab _ _:=(hb2 ab hax).trans ha1
 have he2:Blk w2 eb _ _:=(hb2 eb hex).trans he1
 have ca:=ha2.rule
 have fa:=ha2.free
 refine tree_loud rfl rfl (by rfl) (fun K hK=> ?_)
 go_wp2_with fail
 refine hK _ _ ⟨by simp,fun x hx=>heap_setCell_other _ _ _ _ (by rcases hx with rfl|rfl;exact Ne.symm haz;show x≠ab;omega)⟩ ?_
 clear hK K
 have hx3:Blk (w2.setCell ⟨ab,0,none⟩ (.int .i64 (p:Int))) xb zs 38:=(heap_setCell_other _ _ _ _ (Ne.symm hax)).trans hx2
 have ha3:=ha2.set 0 (.int .i64 (p:Int))
 have he3:Blk (w2.setCell ⟨ab,0,none⟩ (.int .i64 (p:Int))) eb _ _:=(heap_setCell_other _ _ _ _ hea).trans he2
 have ht3:=ht2.setCell (x:=⟨ab,0,none⟩) (.inl (.inr (.inl rfl))) (.int .i64 (p:Int))
 obtain ⟨w3,hw3⟩:∃W,W=w2.setCell ⟨ab,0,none⟩ (.int .i64 (p:Int)):=⟨_,rfl⟩
 rw [←hw3] at hx3 ha3 he3 ht3⊢
 have hz3:w2.heap.size≤w3.heap.size:=by rw [hw3];simp
 have ce:=he3.rule
 have fe:=he3.free
 clear hw3 ca fa
 refine tree_loud rfl rfl (by rfl) (fun K hK=> ?_)
 go_wp2_with fail
 refine hK _ _ ⟨by simp,fun x hx=>heap_setCell_other _ _ _ _ (by rcases hx with rfl|rfl;exact Ne.symm hez;show x≠eb;omega)⟩ ?_
 clear hK K
 refine tree_done ?_
 go_wp2_with fail
 refine ⟨rfl,_,rfl,.tuple #[],results_none rfl _ _ _,rfl,rfl,?_,?_,?_,?_⟩
 ·exact (heap_setCell_other _ _ _ _ (Ne.symm hex)).trans hx3
 ·exact (heap_setCell_other _ _ _ _ (Ne.symm hea)).trans ha3
 ·exact he3.set 0 (.int .i64 180)
 ·exact ht3.setCell (.inl (.inr (.inr rfl))) _
theorem ActionOwn.turned {w w':World} {B:Nat} {F:Nat→Prop} {p:ActionP} {h:ActionH} (a:ActionOwn w B p h) (ht:Turn F w w') (hF:∀x,F x→x<B):ActionOwn w' B p h:=
 ⟨a.op,a.side,a.place,a.target,OwnInts.turn a.ids ht hF,OwnPairs.turn a.pairs ht hF⟩
def zeroA:ActionP:=⟨0,0,0,0,[],[]⟩
def nilA:ActionH:=⟨nilSl,nilSl⟩
def readA (bs:List UInt8):ActionP×Nat×Int:=match rdWhole rdAction bs with
 | .error k=>(zeroA,k,180)
 | .ok p=>(p,0,0)
set_option maxHeartbeats 4000000 in
theorem wholeA (w:World) (a:Option Addr) (n cap:Nat) (bs:List UInt8) (hb:BytesAt w a bs) (hn:bs.length=n) (hm:n≤1048576):
  Calls Tryz.prog 124 #[.slice a n cap,.func (.func 121) #[] #[]] w fun e w'=>∃h,e= .returned (.tuple #[actionVal (readA bs).1 h,.int .i64 ((readA bs).2.1:Int),.int .i64 (readA bs).2.2])∧ActionOwn w' w.heap.size (readA bs).1 h∧Below w.heap.size w w':=by
 have hmf:∀(fn:Fn) (first cap:Array Value) (w:World),(Instr.makeFunc fn first cap).run Tryz.prog w= .ok (.func fn first cap) w:=fun _ _ _ _=>rfl
 have HN:=Lib.hid hn
 clear hn
 go_enter_defers Tryz.func124,Tryz.ntmps124
 go_upto_region 4 with (fail)
 obtain ⟨X,hX⟩:∃X,X=w.heap.size:=⟨_,rfl⟩
 obtain ⟨A,hA⟩:∃A,A=w.heap.size+1:=⟨_,rfl⟩
 obtain ⟨E,hE⟩:∃E,E=w.heap.size+1+1:=⟨_,rfl⟩
 obtain ⟨Z,hZ⟩:∃Z,Z=w.heap.size+1+1+1:=⟨_,rfl⟩
 rw [←hZ,←hE,←hA,←hX]
 refine wp_forget (fun W=>Blk W X (actionCells zeroA nilA).toArray 38∧Blk W A #[.int .i64 0] 3∧Blk W E #[.int .i64 0] 29∧Blk W Z (actionCells zeroA nilA).toArray 38∧Below w.heap.size w W) ⟨?_,?_,?_,?_,by (try unfold Kept);repeat (first|assumption|exact Below.refl _ _|exact below_undrew (Below.refl _ _)|exact Below.mono (by assumption) (by first|(simp;done)|(simp;omega)|omega)|refine below_setRow ?_ (by first|(simp;done)|(simp;omega)|omega) _|refine Below.setCell ?_ (by first|(simp;done)|(simp;omega)|omega) _|refine Below.alloc ?_ (by first|(simp;done)|(simp;omega)|omega) _|refine below_drewN ?_ _|refine Below.drew ?_|refine below_undrew ?_|refine below_step ?_ (by assumption))⟩ ?_
 ·rw [hX]
  exact (Blk.new3 w (actionCells zeroA nilA).toArray 38 _ _).alloc _
 ·rw [hA]
  exact (Blk.new3' w #[.int .i64 0] 3 _ _).alloc _
 ·rw [hE]
  exact (Blk.new3'' w #[.int .i64 0] 29 _ _).alloc _
 ·have:=Blk.new (((w.alloc (.cells (actionCells zeroA nilA).toArray 38)).alloc (.cells #[.int .i64 0] 3)).alloc (.cells #[.int .i64 0] 29)) (actionCells zeroA nilA).toArray 38
  rw [hZ]
  have e:(((w.alloc (.cells (actionCells zeroA nilA).toArray 38)).alloc (.cells #[.int .i64 0] 3)).alloc (.cells #[.int .i64 0] 29)).heap.size=w.heap.size+1+1+1:=by simp
  rw [e] at this
  exact this
 rintro W1 ⟨hx1,ha1,he1,hz1,hb1⟩
 have hZl:=hz1.lt
 have HXS:=Lib.hid (show X=w.heap.size∧A=w.heap.size+1∧E=w.heap.size+1+1∧Z=w.heap.size+1+1+1 from ⟨hX,hA,hE,hZ⟩)
 clear hX hA hE hZ
 go_upto_region 6 with (fail)
 obtain ⟨C,hC⟩:∃C,C=W1.heap.size:=⟨_,rfl⟩
 rw [←hC]
 refine wp_forget (fun W=>Blk W C #[.slice a n cap,.int .i64 0,.bool true] 184∧Below W1.heap.size W1 W) ⟨by rw [hC];exact Blk.new W1 _ _,by (try unfold Kept);repeat (first|assumption|exact Below.refl _ _|exact below_undrew (Below.refl _ _)|exact Below.mono (by assumption) (by first|(simp;done)|(simp;omega)|omega)|refine below_setRow ?_ (by first|(simp;done)|(simp;omega)|omega) _|refine Below.setCell ?_ (by first|(simp;done)|(simp;omega)|omega) _|refine Below.alloc ?_ (by first|(simp;done)|(simp;omega)|omega) _|refine below_drewN ?_ _|refine Below.drew ?_|refine below_undrew ?_|refine below_step ?_ (by assumption))⟩ ?_
 rintro W2 ⟨hc2,hb2⟩
 obtain ⟨hX,hA,hE,hZ⟩:=HXS.out
 have hbz:BytesAt W2 a bs:=hb.below (below_step hb1 hb2)
 have hlow:InB w.heap.size a bs.length:=fun hp ad ha=>by
  obtain ⟨b',o',e1,e2⟩:=hb 0 (by simpa using hp)
  rw [ha] at e1
  cases e1
  exact World.block_lt_of_cell? w _ e2
 have hq:RAt W2 w.heap.size ⟨C,a,cap,bs,0⟩:=⟨by show w.heap.size≤C;omega,by unfold rcells;dsimp only;rw [HN.out];exact hc2,hbz,hlow,Nat.zero_le _,by show bs.length≤_;rw [HN.out];exact hm⟩
 have hB2:w.heap.size≤W2.heap.size:=by have:=hb2.size;omega
 have cb:=action_r W2 w.heap.size ⟨C,a,cap,bs,0⟩ X _ 38 zeroA nilA hq hB2 (hx1.old hb2) rfl (by omega) (by show X≠C;omega)
 dsimp only at cb
 have hz2:=hz1.old hb2
 have ha2:=ha1.old hb2
 have he2:=he1.old hb2
 have hXA:X≠A:=by omega
 have hXZ:X≠Z:=by omega
 have hCX:C≠X:=by omega
 have hCA:C≠A:=by omega
 have hCE:C≠E:=by omega
 have hCZ:C≠Z:=by omega
 have hXE:X≠E:=by omega
 have hl2:W1.heap.size≤W2.heap.size:=hb2.size
 have hlX:w.heap.size≤X∧w.heap.size≤A∧w.heap.size≤E∧w.heap.size≤Z∧X<W2.heap.size∧A<W2.heap.size∧E<W2.heap.size∧Z<W2.heap.size:=by omega
 have HLX:=Lib.hid hlX
 have hb02:Below w.heap.size w W2:=hb1.trans (hb2.mono (by omega))
 clear hX hA hE hZ hC hbz hlow hlX
 go_wp2_with fail
 refine cb.mono ?_
 clear cb
 rintro e W3 hres
 obtain ⟨l1,l2,l3,l4,l5,l6,l7,l8⟩:=HLX.out
 have hone:((actionCells zeroA nilA).toArray).toList.all (·.oneCell')=true:=rfl
 have nilOwn:∀(W:World) (B:Nat),ActionOwn W B zeroA nilA:=fun W B=>
  have h0:OwnInts W B nilSl []:=OwnInts.nil _ _
  have h1:OwnPairs W B nilSl []:=OwnPairs.nil _ _
  have hz:wf64 0:=by show (Lit.int .i64 0).wf=true;decide
  have hz8:wf8 0:=by show (Lit.int .i8 0).wf=true;decide
  ⟨hz8,hz,hz,hz,h0,h1⟩
 have has:∀(ad:Addr) (w:World),(asAddr (.pointer (some ad))).run Tryz.prog w= .ok ad w:=fun _ _=>rfl
 rcases hr:rdAction bs 0 with k|⟨p,k⟩
 ·obtain ⟨rfl,hbd⟩:=hres.err hr
  have HR:=Lib.hid (show readA bs=(zeroA,k,180) by unfold readA rdWhole;rw [hr])
  have hz3:Blk W3 Z _ _:=(hbd.turn.block Z l8 (by rintro (h|h);exact hCZ h.symm;exact hXZ h.symm)).trans hz2
  have ha3:Blk W3 A _ _:=(hbd.turn.block A l6 (by rintro (h|h);exact hCA h.symm;exact hXA h.symm)).trans ha2
  have he3:Blk W3 E _ _:=(hbd.turn.block E l7 (by rintro (h|h);exact hCE h.symm;exact hXE h.symm)).trans he2
  obtain ⟨cs3,hx3,hs3⟩:=hbd.blk _ (hx1.old hb2)
  have hb3:Below w.heap.size w W3:=hb02.trans (hbd.below hq l1 hB2)
  clear hres hbd hz2 ha2 he2 hc2 hx1 ha1 he1 hz1 hr
  go_wp2_with fail
  refine leaves_cons (f:=152) (args:= #[.pointer (some ⟨Z,0,none⟩),.pointer (some ⟨X,0,none⟩),.pointer (some ⟨A,0,none⟩),.pointer (some ⟨E,0,none⟩)]) (by simp) (by simp [go_sem]) ?_
  refine (catchA_panic Z X A E k [] _ cs3 0 0 W3 hz3 hx3 ha3 he3 rfl (by rw [hs3];rfl) hone hXZ).mono ?_
  rintro e u' w'' ⟨rfl,rfl,hx4,ha4,he4,ht4⟩
  have hb4:Below w.heap.size w w'':=hb3.trans (ht4.below (fun x hx=>by rcases hx with rfl|rfl|rfl<;>assumption) (by have:=hb3.size;exact this))
  have cx:(loadVar 38 ⟨X,0,none⟩).run Tryz.prog w''= .ok (actionVal zeroA nilA) w'':=run_load_cells actionT (cs:=actionCells zeroA nilA) (fun j hj=>by rw [Nat.zero_add,hx4.rule j];simp [hj]) rfl
  have ca:(loadVar 3 ⟨A,0,none⟩).run Tryz.prog w''= .ok (.int .i64 (k:Int)) w'':=by
   have:=ha4.rule 0
   simp [loadVar,go_sem,this]
  have ce:(loadVar 29 ⟨E,0,none⟩).run Tryz.prog w''= .ok (.int .i64 180) w'':=by
   have:=he4.rule 0
   simp [loadVar,go_sem,this]
  refine ⟨.tuple #[actionVal zeroA nilA,.int .i64 (k:Int),.int .i64 180],?_,?_⟩
  ·simp [results,Tryz.results124,has,cx,ca,ce]
  ·rw [HR.out]
   exact ⟨nilA,rfl,nilOwn _ _,hb4⟩
 ·obtain ⟨rfl,h,hown,hg⟩:=hres.ok hr
  have hz3:Blk W3 Z _ _:=(hg.turn.block Z l8 (by rintro (h|h);exact hCZ h.symm;exact hXZ h.symm)).trans hz2
  have ha3:Blk W3 A _ _:=(hg.turn.block A l6 (by rintro (h|h);exact hCA h.symm;exact hXA h.symm)).trans ha2
  have he3:Blk W3 E _ _:=(hg.turn.block E l7 (by rintro (h|h);exact hCE h.symm;exact hXE h.symm)).trans he2
  have hx3:=hg.blk
  have hb3:Below w.heap.size w W3:=hb02.trans (hg.below hq l1 hB2)
  have hle:k≤bs.length:=hg.at'.le
  have cc:=hg.at'.blk.rule
  unfold rcells RC.to at cc
  dsimp only at cc
  rw [HN.out] at cc hle
  clear hres hz2 ha2 he2 hc2 hx1 ha1 he1 hz1 hg
  by_cases hk:k<n
  ·have HR:=Lib.hid (show readA bs=(zeroA,k,180) by unfold readA rdWhole;rw [hr];dsimp only;rw [if_pos (by rw [HN.out];exact hk)])
   have d1:decide ((k:Int)<(n:Int))=true:=by simp;omega
   obtain ⟨cs3,hcs3⟩:∃cs,cs=(actionCells p h).toArray:=⟨_,rfl⟩
   have hs3:cs3.size=(actionCells zeroA nilA).toArray.size:=by rw [hcs3];rfl
   rw [←hcs3] at hx3
   clear hr hle hcs3 hown
   go_wp2_with fail
   refine leaves_cons (f:=152) (args:= #[.pointer (some ⟨Z,0,none⟩),.pointer (some ⟨X,0,none⟩),.pointer (some ⟨A,0,none⟩),.pointer (some ⟨E,0,none⟩)]) (by simp) (by simp [go_sem]) ?_
   refine (catchA_panic Z X A E k [] _ cs3 0 0 W3 hz3 hx3 ha3 he3 rfl (by rw [hs3];rfl) hone hXZ).mono ?_
   rintro e u' w'' ⟨rfl,rfl,hx4,ha4,he4,ht4⟩
   have hb4:Below w.heap.size w w'':=hb3.trans (ht4.below (fun x hx=>by rcases hx with rfl|rfl|rfl<;>assumption) (by have:=hb3.size;exact this))
   have cx:(loadVar 38 ⟨X,0,none⟩).run Tryz.prog w''= .ok (actionVal zeroA nilA) w'':=run_load_cells actionT (cs:=actionCells zeroA nilA) (fun j hj=>by rw [Nat.zero_add,hx4.rule j];simp [hj]) rfl
   have ca:(loadVar 3 ⟨A,0,none⟩).run Tryz.prog w''= .ok (.int .i64 (k:Int)) w'':=by
    have:=ha4.rule 0
    simp [loadVar,go_sem,this]
   have ce:(loadVar 29 ⟨E,0,none⟩).run Tryz.prog w''= .ok (.int .i64 180) w'':=by
    have:=he4.rule 0
    simp [loadVar,go_sem,this]
   refine ⟨.tuple #[actionVal zeroA nilA,.int .i64 (k:Int),.int .i64 180],?_,?_⟩
   ·simp [results,Tryz.results124,has,cx,ca,ce]
   ·rw [HR.out]
    exact ⟨nilA,rfl,nilOwn _ _,hb4⟩
  ·have hkn:k=n:=by omega
   have HR:=Lib.hid (show readA bs=(p,0,0) by unfold readA rdWhole;rw [hr];dsimp only;rw [if_neg (by rw [HN.out];exact hk)])
   have d1:decide ((k:Int)<(n:Int))=false:=by simp;omega
   have hself:W3.setRow X (actionCells p h).toArray=W3:=setRow_same hx3
   have ca:=ha3.rule
   have fa:=ha3.free
   have hEA:E≠A:=by have:=HXS.out;omega
   have he4:Blk (W3.setCell ⟨A,0,none⟩ (.int .i64 0)) E #[.int .i64 0] 29:=(heap_setCell_other _ _ _ _ hEA).trans he3
   have ce:=he4.rule
   have fe:=he4.free
   have hAX:A≠X:=Ne.symm hXA
   have hx5:Blk ((W3.setCell ⟨A,0,none⟩ (.int .i64 0)).setCell ⟨E,0,none⟩ (.int .i64 0)) X (actionCells p h).toArray 38:=((heap_setCell_other _ _ _ _ hXE).trans (heap_setCell_other _ _ _ _ hXA)).trans hx3
   have ha5:Blk ((W3.setCell ⟨A,0,none⟩ (.int .i64 0)).setCell ⟨E,0,none⟩ (.int .i64 0)) A #[.int .i64 0] 3:=(heap_setCell_other _ _ _ _ (Ne.symm hEA)).trans (ha3.set 0 (.int .i64 0))
   have he5:Blk ((W3.setCell ⟨A,0,none⟩ (.int .i64 0)).setCell ⟨E,0,none⟩ (.int .i64 0)) E #[.int .i64 0] 29:=he4.set 0 (.int .i64 0)
   have hb5:Below w.heap.size w ((W3.setCell ⟨A,0,none⟩ (.int .i64 0)).setCell ⟨E,0,none⟩ (.int .i64 0)):=(hb3.setCell l2 _).setCell l3 _
   have hown5:ActionOwn ((W3.setCell ⟨A,0,none⟩ (.int .i64 0)).setCell ⟨E,0,none⟩ (.int .i64 0)) w.heap.size p h:=
    (hown.turned (F:=fun x=>x=A∨x=E) (((Turn.refl _ W3).setCell (x:=⟨A,0,none⟩) (.inl (.inl rfl)) _).setCell (x:=⟨E,0,none⟩) (.inl (.inr rfl)) _) (fun x hx=>by rcases hx with rfl|rfl<;>assumption)).lower hB2
   go_wp2_with (first|refine wpList_load_blk rfl 38 actionT (.tmp 4) rfl rfl hx3 rfl ?_|(refine wpList_store_blk rfl 38 actionT (.tmp 4) _ rfl rfl rfl hx3 rfl rfl rfl ?_;rw [hself]))
   refine leaves_cons (f:=152) (args:= #[.pointer (some ⟨Z,0,none⟩),.pointer (some ⟨X,0,none⟩),.pointer (some ⟨A,0,none⟩),.pointer (some ⟨E,0,none⟩)]) (by simp) (by simp [go_sem]) ?_
   refine (catchA_idle Z X A E _).mono ?_
   rintro e u' w'' ⟨rfl,rfl,rfl⟩
   clear ca ce
   have cx:(loadVar 38 ⟨X,0,none⟩).run Tryz.prog _= .ok (actionVal p h) _:=run_load_cells actionT (cs:=actionCells p h) (fun j hj=>by rw [Nat.zero_add,hx5.rule j];simp [hj]) rfl
   have ca:(loadVar 3 ⟨A,0,none⟩).run Tryz.prog ((W3.setCell ⟨A,0,none⟩ (.int .i64 0)).setCell ⟨E,0,none⟩ (.int .i64 0))= .ok (.int .i64 0) ((W3.setCell ⟨A,0,none⟩ (.int .i64 0)).setCell ⟨E,0,none⟩ (.int .i64 0)):=by
    have:=ha5.rule 0
    simp [loadVar,go_sem,this]
   have ce:(loadVar 29 ⟨E,0,none⟩).run Tryz.prog ((W3.setCell ⟨A,0,none⟩ (.int .i64 0)).setCell ⟨E,0,none⟩ (.int .i64 0))= .ok (.int .i64 0) ((W3.setCell ⟨A,0,none⟩ (.int .i64 0)).setCell ⟨E,0,none⟩ (.int .i64 0)):=by
    have:=he5.rule 0
    simp [loadVar,go_sem,this]
   refine ⟨.tuple #[actionVal p h,.int .i64 0,.int .i64 0],?_,?_⟩
   ·simp [results,Tryz.results124,has,cx,ca,ce]
   ·rw [HR.out]
    exact ⟨h,rfl,hown5,hb5⟩
set_option maxHeartbeats 2000000 in
theorem readact_any (w:World) (a:Option Addr) (n cap:Nat) (bs:List UInt8) (hb:BytesAt w a bs) (hn:bs.length=n) (hm:n≤1048576):
  Calls Tryz.prog 85 #[.slice a n cap] w fun e w'=>∃h,e= .returned (.tuple #[actionVal (readA bs).1 h,.int .i64 ((readA bs).2.1:Int),.int .i64 (readA bs).2.2])∧ActionOwn w' w.heap.size (readA bs).1 h∧Below w.heap.size w w':=by
 have HN:=Lib.hid hn
 clear hn
 go_enter Tryz.func85,Tryz.ntmps85
 go_upto_region 1 with (fail)
 obtain ⟨X,hX⟩:∃X,X=w.heap.size:=⟨_,rfl⟩
 rw [←hX]
 refine wp_forget (fun W=>Blk W X (actionCells zeroA nilA).toArray 38∧Below w.heap.size w W) ⟨by rw [hX];exact Blk.new w (actionCells zeroA nilA).toArray _,by (try unfold Kept);repeat (first|assumption|exact Below.refl _ _|exact below_undrew (Below.refl _ _)|exact Below.mono (by assumption) (by first|(simp;done)|(simp;omega)|omega)|refine below_setRow ?_ (by first|(simp;done)|(simp;omega)|omega) _|refine Below.setCell ?_ (by first|(simp;done)|(simp;omega)|omega) _|refine Below.alloc ?_ (by first|(simp;done)|(simp;omega)|omega) _|refine below_drewN ?_ _|refine Below.drew ?_|refine below_undrew ?_|refine below_step ?_ (by assumption))⟩ ?_
 rintro W1 ⟨hx1,hb1⟩
 have hxl:=hx1.lt
 have hXw:w.heap.size≤X:=Nat.le_of_eq hX.symm
 clear hX
 have cb:=wholeA W1 a n cap bs (hb.below hb1) HN.out hm
 obtain ⟨p,hp⟩:∃p,p=(readA bs).1:=⟨_,rfl⟩
 obtain ⟨k,hk⟩:∃k,k=(readA bs).2.1:=⟨_,rfl⟩
 obtain ⟨er,her⟩:∃er,er=(readA bs).2.2:=⟨_,rfl⟩
 rw [←hp,←hk,←her] at cb
 have HP:=Lib.hid hp
 have HK:=Lib.hid hk
 have HE:=Lib.hid her
 clear hp hk her
 go_wp2_with fail
 refine cb.mono ?_
 clear cb
 rintro e W2 ⟨h,rfl,hown,hb2⟩
 have hx2:=hx1.old hb2
 have hs3:Blk (W2.setRow X (actionCells p h).toArray) X (actionCells p h).toArray 38:=hx2.setRow _
 have hown3:=(hown.setRow X (actionCells p h).toArray hxl).lower hb1.size
 have hb3:Below w.heap.size w (W2.setRow X (actionCells p h).toArray):=below_setRow (below_step hb1 hb2) hXw _
 rw [actionVal_cells]
 go_wp2_with (refine wpList_store_blk rfl 38 actionT (.tmp 2) _ rfl rfl rfl hx2 rfl rfl (by rfl) ?_)
 have has:∀(ad:Addr) (w:World),(asAddr (.pointer (some ad))).run Tryz.prog w= .ok ad w:=fun _ _=>rfl
 have cx:(loadVar 38 ⟨X,0,none⟩).run Tryz.prog _= .ok (actionVal p h) _:=run_load_cells actionT (cs:=actionCells p h) (fun j hj=>by rw [Nat.zero_add,hs3.rule j];simp [hj]) rfl
 refine bodyPost_ret (v:= .tuple #[actionVal p h,.int .i64 (k:Int),.int .i64 er]) ?_ rfl ?_
 ·simp [results,Tryz.results85,has,cx]
 ·rw [←HP.out,←HK.out,←HE.out]
  exact ⟨h,rfl,hown3,hb3⟩
end
end Go.Proofs.YtioigihakjlopaaGreat
