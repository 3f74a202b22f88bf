/- Texts put together and cut to what is used: ImWhole, ImLaws, ImLaws2. -/
import Derived.Test.YtioigihakjlopaaGreatVB09
import Derived.Defers
import Derived.Recover
namespace Go.Proofs.YtioigihakjlopaaGreat
set_option linter.unusedVariables false
set_option linter.unusedSimpArgs false
section
open Go.RowKit
set_option maxRecDepth 20000
theorem actionT:AggT Tryz.prog 38 6:=⟨⟨_,Tryz.underlying38,rfl⟩,by kernel_rfl⟩
theorem setRow_same {w:World} {g:Nat} {cs:Array Value} {t:TypeId} (h:Blk w g cs t):w.setRow g cs=w:=by
 have e:(w.setRow g cs).heap=w.heap:=by
  apply Array.ext_getElem?
  intro i
  by_cases hi:i=g
  ·subst hi
   have h1:w.heap[i]? =_:=h
   rw [setRow_heap w i cs cs t (0,0) h1,h1]
  ·exact Go.setRow_other _ _ _ _ hi
 have:w.setRow g cs={w with heap:=(w.setRow g cs).heap}:=rfl
 rw [this,e]
theorem asWrong (v:Value) (w:World):(Instr.typeAssert (.iface 218 v) 20 218 true).run Tryz.prog w= .ok (.tuple #[v,.bool true]) w:=by kernel_rfl
def nilSl:Sl:=⟨none,0,0⟩
theorem catchA_idle (zb xb ab eb:Nat) (w:World):
  CallsD Tryz.prog 152 #[.pointer (some ⟨zb,0,none⟩),.pointer (some ⟨xb,0,none⟩),.pointer (some ⟨ab,0,none⟩),.pointer (some ⟨eb,0,none⟩)] .returning w fun e u' w'=>
   e= .returned (.tuple #[])∧u'= .returning∧w'=w:=by
 refine callsD_of_wpS Tryz.func152 rfl fun c₀ cs hu=> ?_
 apply wpS_seq
 apply wpS_region
 simp [wpOpsS,go_sem,recoverD,hu,Tryz.ntmps152,Exit.thenS]
 refine wpS_of_wp ?_
 go_wp2_with fail
 cases c₀
 simp_all [bodyPostS,results,Tryz.results152]
set_option maxHeartbeats 2000000 in
theorem catchA_panic (zb xb ab eb p:Nat) (older:List PanicEntry) (zs cs0:Array Value) (a0 e0:Int) (w:World) (hz:Blk w zb zs 38) (hx:Blk w xb cs0 38) (ha:Blk w ab #[.int .i64 a0] 3) (he:Blk w eb #[.int .i64 e0] 29) (hzs:zs.size=6) (hcs:cs0.size=6) (hone:zs.toList.all (·.oneCell')=true) (hxz:xb≠zb):
  CallsD Tryz.prog 152 #[.pointer (some ⟨zb,0,none⟩),.pointer (some ⟨xb,0,none⟩),.pointer (some ⟨ab,0,none⟩),.pointer (some ⟨eb,0,none⟩)] (.panicking ({v:= .iface 218 (.agg #[.int .i64 (p:Int)]),recovered:=false}::older)) w fun e u' w'=>
   e= .returned (.tuple #[])∧u'= .panicking ({v:= .iface 218 (.agg #[.int .i64 (p:Int)]),recovered:=true}::older)∧Blk w' xb zs 38∧Blk w' ab #[.int .i64 (p:Int)] 3∧Blk w' eb #[.int .i64 180] 29∧Turn (fun x=>x=xb∨x=ab∨x=eb) w w':=by
 refine callsD_of_wpS Tryz.func152 rfl fun c₀ cs hu=> ?_
 apply wpS_seq
 apply wpS_region
 simp [wpOpsS,go_sem,recoverD,hu,Tryz.ntmps152,Exit.thenS]
 refine wpS_of_wp ?_
 have htm: #[Value.pointer (some ⟨zb,0,none⟩),.pointer (some ⟨xb,0,none⟩),.pointer (some ⟨ab,0,none⟩),.pointer (some ⟨eb,0,none⟩)]++(Array.replicate 12 undef).setIfInBounds 3 (.iface 218 (.agg #[.int .i64 (p:Int)]))= #[.pointer (some ⟨zb,0,none⟩),.pointer (some ⟨xb,0,none⟩),.pointer (some ⟨ab,0,none⟩),.pointer (some ⟨eb,0,none⟩),undef,undef,undef,.iface 218 (.agg #[.int .i64 (p:Int)]),undef,undef,undef,undef,undef,undef,undef,undef]:=rfl
 rw [htm]
 clear htm
 have hta:=asWrong
 go_upto_region 7 with (fail)
 obtain ⟨Y,hY⟩:∃Y,Y=w.heap.size:=⟨_,rfl⟩
 rw [←hY]
 refine wp_forget (fun W=>Blk W Y #[.int .i64 (p:Int)] 218∧Below w.heap.size w W) ⟨by rw [hY];exact Blk.new w _ _,by (try unfold Kept);repeat (first|assumption|exact Below.refl _ _|exact below_undrew (Below.refl _ _)|exact Below.mono (by assumption) (by first|(simp;done)|(simp;omega)|omega)|refine below_setRow ?_ (by first|(simp;done)|(simp;omega)|omega) _|refine Below.setCell ?_ (by first|(simp;done)|(simp;omega)|omega) _|refine Below.alloc ?_ (by first|(simp;done)|(simp;omega)|omega) _|refine below_drewN ?_ _|refine Below.drew ?_|refine below_undrew ?_|refine below_step ?_ (by assumption))⟩ ?_
 rintro w1 ⟨hy1,hb1⟩
 have hz1:=hz.old hb1
 have hx1:=hx.old hb1
 have ha1:=ha.old hb1
 have he1:=he.old hb1
 have hzx:xb<w.heap.size:=hx.lt
 have hza:ab<w.heap.size:=ha.lt
 have hze:eb<w.heap.size:=he.lt
 have hax:ab≠xb:=ha.ne hx (by decide)
 have hex:eb≠xb:=he.ne hx (by decide)
 have hea:eb≠ab:=he.ne ha (by decide)
 have hYw:w.heap.size≤Y:=by omega
 have haz:ab≠zb:=ha.ne hz (by decide)
 have hez:eb≠zb:=he.ne hz (by decide)
 clear hY
 refine wp_region_treeR false (KeepAt (fun x=>x=zb∨x=Y)) (KeepAt.refl _) (fun _ _ _ h1 h2=>KeepAt.trans h1 h2) (.step 0 (.step 1 (.step 2 (.step 3 (.step 4 (.step 5 .done)))))) (by kernel_rfl) (by kernel_rfl) (fun c a d v w h=>by cases d<;>exact h) ?_
 have kz:∀W,KeepAt (fun x=>x=zb∨x=Y) w1.drew W→Blk W zb zs 38:=fun W hW=>(hW.2 _ (.inl rfl)).trans hz1
 have ky:∀W,KeepAt (fun x=>x=zb∨x=Y) w1.drew W→∀i,W.cell? ⟨Y,i,none⟩= #[Value.int .i64 (p:Int)][i]? :=fun W hW=>(show Blk W Y _ _ from (hW.2 _ (.inr rfl)).trans hy1).rule
 refine tree_quiet (v:= .agg zs) rfl rfl (by rfl) (fun W hW=>exec_load_as 38 actionT _ rfl rfl (cs:=zs.toList) rfl (fun j hj=>by rw [Nat.zero_add,(kz W hW).rule j];simp at hj;simp [hj]) (by simpa using hzs)) ?_
 simp only [Act.put,List.setIfInBounds_toArray,List.set]
 repeat (first|(refine tree_skip rfl (by rfl) ?_;simp only [Act.put,List.setIfInBounds_toArray,List.set])|(refine tree_quiet (v:= ?_) rfl rfl (by rfl) ?_ ?_;rotate_left;(intro W hW;go_simp);(try with_reducible rfl);simp only [Act.put,List.setIfInBounds_toArray,List.set]))
 refine tree_loud rfl rfl (by rfl) (fun K hK=> ?_)
 refine wp_store_at 38 actionT _ _ rfl rfl rfl hx1.drew hzs (by omega) hone ?_
 have hx2:=hx1.drew.setRow (splice cs0 0 zs)
 have hb2:∀x,x≠xb→(w1.drew.setRow xb (splice cs0 0 zs)).heap[x]? =w1.heap[x]? :=fun x hx=>Go.setRow_other _ _ _ _ hx
 obtain ⟨w2,hw2⟩:∃W,W=w1.drew.setRow xb (splice cs0 0 zs):=⟨_,rfl⟩
 rw [←hw2] at hx2 hb2⊢
 have hz2:w1.heap.size≤w2.heap.size:=by rw [hw2];simp [World.setRow]
 have ht2:Turn (fun x=>x=xb∨x=ab∨x=eb) w w2:=by
  refine ⟨?_,?_,?_,Nat.le_trans hb1.size hz2,fun k hk hf=>(hb2 k fun e=>hf (.inl e)).trans (hb1.block k hk)⟩
  ·rw [hw2];exact hb1.os
  ·rw [hw2];exact hb1.tape
  ·rw [hw2];exact hb1.output
 have hsp:splice cs0 0 zs=zs:=by
  unfold splice
  rw [List.take_zero,List.nil_append,List.drop_of_length_le (by rw [Array.length_toList];omega),List.append_nil]
 rw [hsp] at hx2
 refine hK _ _ ⟨hz2,fun x hx=>hb2 x (by rcases hx with rfl|rfl;exact Ne.symm hxz;omega)⟩ ?_
 clear hK K hw2 kz ky hta
 have ha2:Blk w2 ab _ _:=(hb2 ab hax).trans ha1
 have he2:Blk w2 eb _ _:=(hb2 eb hex).trans he1
 have ca:=ha2.rule
 have fa:=ha2.free
 refine tree_loud rfl rfl (by rfl) (fun K hK=> ?_)
 go_wp2_with fail
 refine hK _ _ ⟨by simp,fun x hx=>heap_setCell_other _ _ _ _ (by rcases hx with rfl|rfl;exact Ne.symm haz;show x≠ab;omega)⟩ ?_
 clear hK K
 have hx3:Blk (w2.setCell ⟨ab,0,none⟩ (.int .i64 (p:Int))) xb zs 38:=(heap_setCell_other _ _ _ _ (Ne.symm hax)).trans hx2
 have ha3:=ha2.set 0 (.int .i64 (p:Int))
 have he3:Blk (w2.setCell ⟨ab,0,none⟩ (.int .i64 (p:Int))) eb _ _:=(heap_setCell_other _ _ _ _ hea).trans he2
 have ht3:=ht2.setCell (x:=⟨ab,0,none⟩) (.inl (.inr (.inl rfl))) (.int .i64 (p:Int))
 obtain ⟨w3,hw3⟩:∃W,W=w2.setCell ⟨ab,0,none⟩ (.int .i64 (p:Int)):=⟨_,rfl⟩
 rw [←hw3] at hx3 ha3 he3 ht3⊢
 have hz3:w2.heap.size≤w3.heap.size:=by rw [hw3];simp
 have ce:=he3.rule
 have fe:=he3.free
 clear hw3 ca fa
 refine tree_loud rfl rfl (by rfl) (fun K hK=> ?_)
 go_wp2_with fail
 refine hK _ _ ⟨by simp,fun x hx=>heap_setCell_other _ _ _ _ (by rcases hx with rfl|rfl;exact Ne.symm hez;show x≠eb;omega)⟩ ?_
 clear hK K
 refine tree_done ?_
 go_wp2_with fail
 refine ⟨rfl,_,rfl,.tuple #[],results_none rfl _ _ _,rfl,rfl,?_,?_,?_,?_⟩
 ·exact (heap_setCell_other _ _ _ _ (Ne.symm hex)).trans hx3
 ·exact (heap_setCell_other _ _ _ _ (Ne.symm hea)).trans ha3
 ·exact he3.set 0 (.int .i64 180)
 ·exact ht3.setCell (.inl (.inr (.inr rfl))) _
theorem ActionOwn.turned {w w':World} {B:Nat} {F:Nat→Prop} {p:ActionP} {h:ActionH} (a:ActionOwn w B p h) (ht:Turn F w w') (hF:∀x,F x→x<B):ActionOwn w' B p h:=
 ⟨a.op,a.side,a.place,a.target,OwnInts.turn a.ids ht hF,OwnPairs.turn a.pairs ht hF⟩
def zeroA:ActionP:=⟨0,0,0,0,[],[]⟩
def nilA:ActionH:=⟨nilSl,nilSl⟩
def readA (bs:List UInt8):ActionP×Nat×Int:=match rdWhole rdAction bs with
 | .error k=>(zeroA,k,180)
 | .ok p=>(p,0,0)
set_option maxHeartbeats 4000000 in
theorem wholeA (w:World) (a:Option Addr) (n cap:Nat) (bs:List UInt8) (hb:BytesAt w a bs) (hn:bs.length=n) (hm:n≤1048576):
  Calls Tryz.prog 124 #[.slice a n cap,.func (.func 121) #[] #[]] w fun e w'=>∃h,e= .returned (.tuple #[actionVal (readA bs).1 h,.int .i64 ((readA bs).2.1:Int),.int .i64 (readA bs).2.2])∧ActionOwn w' w.heap.size (readA bs).1 h∧Below w.heap.size w w':=by
 have hmf:∀(fn:Fn) (first cap:Array Value) (w:World),(Instr.makeFunc fn first cap).run Tryz.prog w= .ok (.func fn first cap) w:=fun _ _ _ _=>rfl
 have HN:=Lib.hid hn
 clear hn
 go_enter_defers Tryz.func124,Tryz.ntmps124
 go_upto_region 4 with (fail)
 obtain ⟨X,hX⟩:∃X,X=w.heap.size:=⟨_,rfl⟩
 obtain ⟨A,hA⟩:∃A,A=w.heap.size+1:=⟨_,rfl⟩
 obtain ⟨E,hE⟩:∃E,E=w.heap.size+1+1:=⟨_,rfl⟩
 obtain ⟨Z,hZ⟩:∃Z,Z=w.heap.size+1+1+1:=⟨_,rfl⟩
 rw [←hZ,←hE,←hA,←hX]
 refine wp_forget (fun W=>Blk W X (actionCells zeroA nilA).toArray 38∧Blk W A #[.int .i64 0] 3∧Blk W E #[.int .i64 0] 29∧Blk W Z (actionCells zeroA nilA).toArray 38∧Below w.heap.size w W) ⟨?_,?_,?_,?_,by (try unfold Kept);repeat (first|assumption|exact Below.refl _ _|exact below_undrew (Below.refl _ _)|exact Below.mono (by assumption) (by first|(simp;done)|(simp;omega)|omega)|refine below_setRow ?_ (by first|(simp;done)|(simp;omega)|omega) _|refine Below.setCell ?_ (by first|(simp;done)|(simp;omega)|omega) _|refine Below.alloc ?_ (by first|(simp;done)|(simp;omega)|omega) _|refine below_drewN ?_ _|refine Below.drew ?_|refine below_undrew ?_|refine below_step ?_ (by assumption))⟩ ?_
 ·rw [hX]
  exact (Blk.new3 w (actionCells zeroA nilA).toArray 38 _ _).alloc _
 ·rw [hA]
  exact (Blk.new3' w #[.int .i64 0] 3 _ _).alloc _
 ·rw [hE]
  exact (Blk.new3'' w #[.int .i64 0] 29 _ _).alloc _
 ·have:=Blk.new (((w.alloc (.cells (actionCells zeroA nilA).toArray 38)).alloc (.cells #[.int .i64 0] 3)).alloc (.cells #[.int .i64 0] 29)) (actionCells zeroA nilA).toArray 38
  rw [hZ]
  have e:(((w.alloc (.cells (actionCells zeroA nilA).toArray 38)).alloc (.cells #[.int .i64 0] 3)).alloc (.cells #[.int .i64 0] 29)).heap.size=w.heap.size+1+1+1:=by simp
  rw [e] at this
  exact this
 rintro W1 ⟨hx1,ha1,he1,hz1,hb1⟩
 have hZl:=hz1.lt
 have HXS:=Lib.hid (show X=w.heap.size∧A=w.heap.size+1∧E=w.heap.size+1+1∧Z=w.heap.size+1+1+1 from ⟨hX,hA,hE,hZ⟩)
 clear hX hA hE hZ
 go_upto_region 6 with (fail)
 obtain ⟨C,hC⟩:∃C,C=W1.heap.size:=⟨_,rfl⟩
 rw [←hC]
 refine wp_forget (fun W=>Blk W C #[.slice a n cap,.int .i64 0,.bool true] 184∧Below W1.heap.size W1 W) ⟨by rw [hC];exact Blk.new W1 _ _,by (try unfold Kept);repeat (first|assumption|exact Below.refl _ _|exact below_undrew (Below.refl _ _)|exact Below.mono (by assumption) (by first|(simp;done)|(simp;omega)|omega)|refine below_setRow ?_ (by first|(simp;done)|(simp;omega)|omega) _|refine Below.setCell ?_ (by first|(simp;done)|(simp;omega)|omega) _|refine Below.alloc ?_ (by first|(simp;done)|(simp;omega)|omega) _|refine below_drewN ?_ _|refine Below.drew ?_|refine below_undrew ?_|refine below_step ?_ (by assumption))⟩ ?_
 rintro W2 ⟨hc2,hb2⟩
 obtain ⟨hX,hA,hE,hZ⟩:=HXS.out
 have hbz:BytesAt W2 a bs:=hb.below (below_step hb1 hb2)
 have hlow:InB w.heap.size a bs.length:=fun hp ad ha=>by
  obtain ⟨b',o',e1,e2⟩:=hb 0 (by simpa using hp)
  rw [ha] at e1
  cases e1
  exact World.block_lt_of_cell? w _ e2
 have hq:RAt W2 w.heap.size ⟨C,a,cap,bs,0⟩:=⟨by show w.heap.size≤C;omega,by unfold rcells;dsimp only;rw [HN.out];exact hc2,hbz,hlow,Nat.zero_le _,by show bs.length≤_;rw [HN.out];exact hm⟩
 have hB2:w.heap.size≤W2.heap.size:=by have:=hb2.size;omega
 have cb:=action_r W2 w.heap.size ⟨C,a,cap,bs,0⟩ X _ 38 zeroA nilA hq hB2 (hx1.old hb2) rfl (by omega) (by show X≠C;omega)
 dsimp only at cb
 have hz2:=hz1.old hb2
 have ha2:=ha1.old hb2
 have he2:=he1.old hb2
 have hXA:X≠A:=by omega
 have hXZ:X≠Z:=by omega
 have hCX:C≠X:=by omega
 have hCA:C≠A:=by omega
 have hCE:C≠E:=by omega
 have hCZ:C≠Z:=by omega
 have hXE:X≠E:=by omega
 have hl2:W1.heap.size≤W2.heap.size:=hb2.size
 have hlX:w.heap.size≤X∧w.heap.size≤A∧w.heap.size≤E∧w.heap.size≤Z∧X<W2.heap.size∧A<W2.heap.size∧E<W2.heap.size∧Z<W2.heap.size:=by omega
 have HLX:=Lib.hid hlX
 have hb02:Below w.heap.size w W2:=hb1.trans (hb2.mono (by omega))
 clear hX hA hE hZ hC hbz hlow hlX
 go_wp2_with fail
 refine cb.mono ?_
 clear cb
 rintro e W3 hres
 obtain ⟨l1,l2,l3,l4,l5,l6,l7,l8⟩:=HLX.out
 have hone:((actionCells zeroA nilA).toArray).toList.all (·.oneCell')=true:=rfl
 have nilOwn:∀(W:World) (B:Nat),ActionOwn W B zeroA nilA:=fun W B=>
  have h0:OwnInts W B nilSl []:=OwnInts.nil _ _
  have h1:OwnPairs W B nilSl []:=OwnPairs.nil _ _
  have hz:wf64 0:=by show (Lit.int .i64 0).wf=true;decide
  have hz8:wf8 0:=by show (Lit.int .i8 0).wf=true;decide
  ⟨hz8,hz,hz,hz,h0,h1⟩
 have has:∀(ad:Addr) (w:World),(asAddr (.pointer (some ad))).run Tryz.prog w= .ok ad w:=fun _ _=>rfl
 rcases hr:rdAction bs 0 with k|⟨p,k⟩
 ·obtain ⟨rfl,hbd⟩:=hres.err hr
  have HR:=Lib.hid (show readA bs=(zeroA,k,180) by unfold readA rdWhole;rw [hr])
  have hz3:Blk W3 Z _ _:=(hbd.turn.block Z l8 (by rintro (h|h);exact hCZ h.symm;exact hXZ h.symm)).trans hz2
  have ha3:Blk W3 A _ _:=(hbd.turn.block A l6 (by rintro (h|h);exact hCA h.symm;exact hXA h.symm)).trans ha2
  have he3:Blk W3 E _ _:=(hbd.turn.block E l7 (by rintro (h|h);exact hCE h.symm;exact hXE h.symm)).trans he2
  obtain ⟨cs3,hx3,hs3⟩:=hbd.blk _ (hx1.old hb2)
  have hb3:Below w.heap.size w W3:=hb02.trans (hbd.below hq l1 hB2)
  clear hres hbd hz2 ha2 he2 hc2 hx1 ha1 he1 hz1 hr
  go_wp2_with fail
  refine leaves_cons (f:=152) (args:= #[.pointer (some ⟨Z,0,none⟩),.pointer (some ⟨X,0,none⟩),.pointer (some ⟨A,0,none⟩),.pointer (some ⟨E,0,none⟩)]) (by simp) (by simp [go_sem]) ?_
  refine (catchA_panic Z X A E k [] _ cs3 0 0 W3 hz3 hx3 ha3 he3 rfl (by rw [hs3];rfl) hone hXZ).mono ?_
  rintro e u' w'' ⟨rfl,rfl,hx4,ha4,he4,ht4⟩
  have hb4:Below w.heap.size w w'':=hb3.trans (ht4.below (fun x hx=>by rcases hx with rfl|rfl|rfl<;>assumption) (by have:=hb3.size;exact this))
  have cx:(loadVar 38 ⟨X,0,none⟩).run Tryz.prog w''= .ok (actionVal zeroA nilA) w'':=run_load_cells actionT (cs:=actionCells zeroA nilA) (fun j hj=>by rw [Nat.zero_add,hx4.rule j];simp [hj]) rfl
  have ca:(loadVar 3 ⟨A,0,none⟩).run Tryz.prog w''= .ok (.int .i64 (k:Int)) w'':=by
   have:=ha4.rule 0
   simp [loadVar,go_sem,this]
  have ce:(loadVar 29 ⟨E,0,none⟩).run Tryz.prog w''= .ok (.int .i64 180) w'':=by
   have:=he4.rule 0
   simp [loadVar,go_sem,this]
  refine ⟨.tuple #[actionVal zeroA nilA,.int .i64 (k:Int),.int .i64 180],?_,?_⟩
  ·simp [results,Tryz.results124,has,cx,ca,ce]
  ·rw [HR.out]
   exact ⟨nilA,rfl,nilOwn _ _,hb4⟩
 ·obtain ⟨rfl,h,hown,hg⟩:=hres.ok hr
  have hz3:Blk W3 Z _ _:=(hg.turn.block Z l8 (by rintro (h|h);exact hCZ h.symm;exact hXZ h.symm)).trans hz2
  have ha3:Blk W3 A _ _:=(hg.turn.block A l6 (by rintro (h|h);exact hCA h.symm;exact hXA h.symm)).trans ha2
  have he3:Blk W3 E _ _:=(hg.turn.block E l7 (by rintro (h|h);exact hCE h.symm;exact hXE h.symm)).trans he2
  have hx3:=hg.blk
  have hb3:Below w.heap.size w W3:=hb02.trans (hg.below hq l1 hB2)
  have hle:k≤bs.length:=hg.at'.le
  have cc:=hg.at'.blk.rule
  unfold rcells RC.to at cc
  dsimp only at cc
  rw [HN.out] at cc hle
  clear hres hz2 ha2 he2 hc2 hx1 ha1 he1 hz1 hg
  by_cases hk:k<n
  ·have HR:=Lib.hid (show readA bs=(zeroA,k,180) by unfold readA rdWhole;rw [hr];dsimp only;rw [if_pos (by rw [HN.out];exact hk)])
   have d1:decide ((k:Int)<(n:Int))=true:=by simp;omega
   obtain ⟨cs3,hcs3⟩:∃cs,cs=(actionCells p h).toArray:=⟨_,rfl⟩
   have hs3:cs3.size=(actionCells zeroA nilA).toArray.size:=by rw [hcs3];rfl
   rw [←hcs3] at hx3
   clear hr hle hcs3 hown
   go_wp2_with fail
   refine leaves_cons (f:=152) (args:= #[.pointer (some ⟨Z,0,none⟩),.pointer (some ⟨X,0,none⟩),.pointer (some ⟨A,0,none⟩),.pointer (some ⟨E,0,none⟩)]) (by simp) (by simp [go_sem]) ?_
   refine (catchA_panic Z X A E k [] _ cs3 0 0 W3 hz3 hx3 ha3 he3 rfl (by rw [hs3];rfl) hone hXZ).mono ?_
   rintro e u' w'' ⟨rfl,rfl,hx4,ha4,he4,ht4⟩
   have hb4:Below w.heap.size w w'':=hb3.trans (ht4.below (fun x hx=>by rcases hx with rfl|rfl|rfl<;>assumption) (by have:=hb3.size;exact this))
   have cx:(loadVar 38 ⟨X,0,none⟩).run Tryz.prog w''= .ok (actionVal zeroA nilA) w'':=run_load_cells actionT (cs:=actionCells zeroA nilA) (fun j hj=>by rw [Nat.zero_add,hx4.rule j];simp [hj]) rfl
   have ca:(loadVar 3 ⟨A,0,none⟩).run Tryz.prog w''= .ok (.int .i64 (k:Int)) w'':=by
    have:=ha4.rule 0
    simp [loadVar,go_sem,this]
   have ce:(loadVar 29 ⟨E,0,none⟩).run Tryz.prog w''= .ok (.int .i64 180) w'':=by
    have:=he4.rule 0
    simp [loadVar,go_sem,this]
   refine ⟨.tuple #[actionVal zeroA nilA,.int .i64 (k:Int),.int .i64 180],?_,?_⟩
   ·simp [results,Tryz.results124,has,cx,ca,ce]
   ·rw [HR.out]
    exact ⟨nilA,rfl,nilOwn _ _,hb4⟩
  ·have hkn:k=n:=by omega
   have HR:=Lib.hid (show readA bs=(p,0,0) by unfold readA rdWhole;rw [hr];dsimp only;rw [if_neg (by rw [HN.out];exact hk)])
   have d1:decide ((k:Int)<(n:Int))=false:=by simp;omega
   have hself:W3.setRow X (actionCells p h).toArray=W3:=setRow_same hx3
   have ca:=ha3.rule
   have fa:=ha3.free
   have hEA:E≠A:=by have:=HXS.out;omega
   have he4:Blk (W3.setCell ⟨A,0,none⟩ (.int .i64 0)) E #[.int .i64 0] 29:=(heap_setCell_other _ _ _ _ hEA).trans he3
   have ce:=he4.rule
   have fe:=he4.free
   have hAX:A≠X:=Ne.symm hXA
   have hx5:Blk ((W3.setCell ⟨A,0,none⟩ (.int .i64 0)).setCell ⟨E,0,none⟩ (.int .i64 0)) X (actionCells p h).toArray 38:=((heap_setCell_other _ _ _ _ hXE).trans (heap_setCell_other _ _ _ _ hXA)).trans hx3
   have ha5:Blk ((W3.setCell ⟨A,0,none⟩ (.int .i64 0)).setCell ⟨E,0,none⟩ (.int .i64 0)) A #[.int .i64 0] 3:=(heap_setCell_other _ _ _ _ (Ne.symm hEA)).trans (ha3.set 0 (.int .i64 0))
   have he5:Blk ((W3.setCell ⟨A,0,none⟩ (.int .i64 0)).setCell ⟨E,0,none⟩ (.int .i64 0)) E #[.int .i64 0] 29:=he4.set 0 (.int .i64 0)
   have hb5:Below w.heap.size w ((W3.setCell ⟨A,0,none⟩ (.int .i64 0)).setCell ⟨E,0,none⟩ (.int .i64 0)):=(hb3.setCell l2 _).setCell l3 _
   have hown5:ActionOwn ((W3.setCell ⟨A,0,none⟩ (.int .i64 0)).setCell ⟨E,0,none⟩ (.int .i64 0)) w.heap.size p h:=
    (hown.turned (F:=fun x=>x=A∨x=E) (((Turn.refl _ W3).setCell (x:=⟨A,0,none⟩) (.inl (.inl rfl)) _).setCell (x:=⟨E,0,none⟩) (.inl (.inr rfl)) _) (fun x hx=>by rcases hx with rfl|rfl<;>assumption)).lower hB2
   go_wp2_with (first|refine wpList_load_blk rfl 38 actionT (.tmp 4) rfl rfl hx3 rfl ?_|(refine wpList_store_blk rfl 38 actionT (.tmp 4) _ rfl rfl rfl hx3 rfl rfl rfl ?_;rw [hself]))
   refine leaves_cons (f:=152) (args:= #[.pointer (some ⟨Z,0,none⟩),.pointer (some ⟨X,0,none⟩),.pointer (some ⟨A,0,none⟩),.pointer (some ⟨E,0,none⟩)]) (by simp) (by simp [go_sem]) ?_
   refine (catchA_idle Z X A E _).mono ?_
   rintro e u' w'' ⟨rfl,rfl,rfl⟩
   clear ca ce
   have cx:(loadVar 38 ⟨X,0,none⟩).run Tryz.prog _= .ok (actionVal p h) _:=run_load_cells actionT (cs:=actionCells p h) (fun j hj=>by rw [Nat.zero_add,hx5.rule j];simp [hj]) rfl
   have ca:(loadVar 3 ⟨A,0,none⟩).run Tryz.prog ((W3.setCell ⟨A,0,none⟩ (.int .i64 0)).setCell ⟨E,0,none⟩ (.int .i64 0))= .ok (.int .i64 0) ((W3.setCell ⟨A,0,none⟩ (.int .i64 0)).setCell ⟨E,0,none⟩ (.int .i64 0)):=by
    have:=ha5.rule 0
    simp [loadVar,go_sem,this]
   have ce:(loadVar 29 ⟨E,0,none⟩).run Tryz.prog ((W3.setCell ⟨A,0,none⟩ (.int .i64 0)).setCell ⟨E,0,none⟩ (.int .i64 0))= .ok (.int .i64 0) ((W3.setCell ⟨A,0,none⟩ (.int .i64 0)).setCell ⟨E,0,none⟩ (.int .i64 0)):=by
    have:=he5.rule 0
    simp [loadVar,go_sem,this]
   refine ⟨.tuple #[actionVal p h,.int .i64 0,.int .i64 0],?_,?_⟩
   ·simp [results,Tryz.results124,has,cx,ca,ce]
   ·rw [HR.out]
    exact ⟨h,rfl,hown5,hb5⟩
set_option maxHeartbeats 2000000 in
theorem readact_any (w:World) (a:Option Addr) (n cap:Nat) (bs:List UInt8) (hb:BytesAt w a bs) (hn:bs.length=n) (hm:n≤1048576):
  Calls Tryz.prog 85 #[.slice a n cap] w fun e w'=>∃h,e= .returned (.tuple #[actionVal (readA bs).1 h,.int .i64 ((readA bs).2.1:Int),.int .i64 (readA bs).2.2])∧ActionOwn w' w.heap.size (readA bs).1 h∧Below w.heap.size w w':=by
 have HN:=Lib.hid hn
 clear hn
 go_enter Tryz.func85,Tryz.ntmps85
 go_upto_region 1 with (fail)
 obtain ⟨X,hX⟩:∃X,X=w.heap.size:=⟨_,rfl⟩
 rw [←hX]
 refine wp_forget (fun W=>Blk W X (actionCells zeroA nilA).toArray 38∧Below w.heap.size w W) ⟨by rw [hX];exact Blk.new w (actionCells zeroA nilA).toArray _,by (try unfold Kept);repeat (first|assumption|exact Below.refl _ _|exact below_undrew (Below.refl _ _)|exact Below.mono (by assumption) (by first|(simp;done)|(simp;omega)|omega)|refine below_setRow ?_ (by first|(simp;done)|(simp;omega)|omega) _|refine Below.setCell ?_ (by first|(simp;done)|(simp;omega)|omega) _|refine Below.alloc ?_ (by first|(simp;done)|(simp;omega)|omega) _|refine below_drewN ?_ _|refine Below.drew ?_|refine below_undrew ?_|refine below_step ?_ (by assumption))⟩ ?_
 rintro W1 ⟨hx1,hb1⟩
 have hxl:=hx1.lt
 have hXw:w.heap.size≤X:=Nat.le_of_eq hX.symm
 clear hX
 have cb:=wholeA W1 a n cap bs (hb.below hb1) HN.out hm
 obtain ⟨p,hp⟩:∃p,p=(readA bs).1:=⟨_,rfl⟩
 obtain ⟨k,hk⟩:∃k,k=(readA bs).2.1:=⟨_,rfl⟩
 obtain ⟨er,her⟩:∃er,er=(readA bs).2.2:=⟨_,rfl⟩
 rw [←hp,←hk,←her] at cb
 have HP:=Lib.hid hp
 have HK:=Lib.hid hk
 have HE:=Lib.hid her
 clear hp hk her
 go_wp2_with fail
 refine cb.mono ?_
 clear cb
 rintro e W2 ⟨h,rfl,hown,hb2⟩
 have hx2:=hx1.old hb2
 have hs3:Blk (W2.setRow X (actionCells p h).toArray) X (actionCells p h).toArray 38:=hx2.setRow _
 have hown3:=(hown.setRow X (actionCells p h).toArray hxl).lower hb1.size
 have hb3:Below w.heap.size w (W2.setRow X (actionCells p h).toArray):=below_setRow (below_step hb1 hb2) hXw _
 rw [actionVal_cells]
 go_wp2_with (refine wpList_store_blk rfl 38 actionT (.tmp 2) _ rfl rfl rfl hx2 rfl rfl (by rfl) ?_)
 have has:∀(ad:Addr) (w:World),(asAddr (.pointer (some ad))).run Tryz.prog w= .ok ad w:=fun _ _=>rfl
 have cx:(loadVar 38 ⟨X,0,none⟩).run Tryz.prog _= .ok (actionVal p h) _:=run_load_cells actionT (cs:=actionCells p h) (fun j hj=>by rw [Nat.zero_add,hs3.rule j];simp [hj]) rfl
 refine bodyPost_ret (v:= .tuple #[actionVal p h,.int .i64 (k:Int),.int .i64 er]) ?_ rfl ?_
 ·simp [results,Tryz.results85,has,cx]
 ·rw [←HP.out,←HK.out,←HE.out]
  exact ⟨h,rfl,hown3,hb3⟩
end
section
open Go.RowKit
def natB (l:List UInt8):Nat:=l.foldl (fun n y=>n*256+y.toNat) 0
theorem natB_snoc (l:List UInt8) (y:UInt8):natB (l++ [y])=natB l*256+y.toNat:=by
 unfold natB
 rw [List.foldl_append]
 rfl
theorem snoc_ind {P:List UInt8→Prop} (h0:P []) (h1:∀l y,P l→P (l++ [y])) (l:List UInt8):P l:=by
 have h:∀l:List UInt8,P l.reverse:=fun l=>by
  induction l with
  |nil=>exact h0
  |cons y l ih=>rw [List.reverse_cons];exact h1 _ _ ih
 have:=h l.reverse
 rwa [List.reverse_reverse] at this
theorem natB_lt (l:List UInt8):natB l<256^l.length:=by
 refine snoc_ind (P:=fun l=>natB l<256^l.length) ?_ (fun l y ih=> ?_) l
 ·simp [natB]
 ·rw [natB_snoc,List.length_append,List.length_singleton,Nat.pow_succ]
  have:=y.toNat_lt
  omega
theorem rdB_snoc' (l:List UInt8) (y:UInt8):rdB (l++ [y])=(rdB l<<<8|||y.toBitVec.setWidth 64):=by
 unfold rdB
 rw [List.foldl_append]
 rfl
theorem rdB_nat (l:List UInt8) (h:l.length≤8):(rdB l).toNat=natB l:=by
 revert h
 refine snoc_ind (P:=fun l=>l.length≤8→(rdB l).toNat=natB l) ?_ (fun l y ih h=> ?_) l
 ·intro _;rfl
 ·rw [List.length_append,List.length_singleton] at h
  have h1:=ih (by omega)
  have h2:=natB_lt l
  have h3:256^l.length≤256^7:=Nat.pow_le_pow_right (by omega) (by omega)
  have hy:y.toBitVec.toNat=y.toNat:=rfl
  have hy2:=y.toNat_lt
  rw [rdB_snoc',natB_snoc,BitVec.toNat_or,BitVec.toNat_shiftLeft,BitVec.toNat_setWidth,h1,hy,Nat.mod_eq_of_lt (a:=y.toNat) (by omega)]
  have h4:natB l<<<8%2^64=natB l<<<8:=by
   rw [Nat.shiftLeft_eq]
   exact Nat.mod_eq_of_lt (by omega)
  rw [h4,←Nat.shiftLeft_add_eq_or_of_lt (by omega),Nat.shiftLeft_eq]
def be8B (v:BitVec 64):List UInt8:=(List.range 8).map fun i=>⟨(v>>>(56-8*i)).setWidth 8⟩
theorem be8_eq (n:Int):be8 n=be8B (BitVec.ofInt 64 n):=rfl
theorem byte_natI (v:BitVec 64) (k:Nat):(⟨(v>>>k).setWidth 8⟩:UInt8).toNat=v.toNat/2^k%256:=by
 show ((v>>>k).setWidth 8).toNat=_
 rw [BitVec.toNat_setWidth,BitVec.toNat_ushiftRight,Nat.shiftRight_eq_div_pow]
theorem be8B_list (v:BitVec 64):be8B v=[⟨(v>>>56).setWidth 8⟩,⟨(v>>>48).setWidth 8⟩,⟨(v>>>40).setWidth 8⟩,⟨(v>>>32).setWidth 8⟩,⟨(v>>>24).setWidth 8⟩,⟨(v>>>16).setWidth 8⟩,⟨(v>>>8).setWidth 8⟩,⟨(v>>>0).setWidth 8⟩]:=rfl
theorem rdB_be8B (v:BitVec 64):rdB (be8B v)=v:=by
 apply BitVec.eq_of_toNat_eq
 rw [rdB_nat _ (by simp [be8B]),be8B_list]
 simp only [natB,List.foldl,byte_natI]
 have:=v.isLt
 omega
theorem be8B_rdB (l:List UInt8) (h:l.length=8):be8B (rdB l)=l:=by
 match l,h with
 | [a,b,c,d,e,f,g,i],_=>
  have hn:=rdB_nat [a,b,c,d,e,f,g,i] (by simp)
  simp only [natB,List.foldl] at hn
  have h0:=a.toNat_lt
  have h1:=b.toNat_lt
  have h2:=c.toNat_lt
  have h3:=d.toNat_lt
  have h4:=e.toNat_lt
  have h5:=f.toNat_lt
  have h6:=g.toNat_lt
  have h7:=i.toNat_lt
  rw [be8B_list]
  congr 1
  ·apply UInt8.toNat_inj.1;rw [byte_natI,hn];omega
  congr 1
  ·apply UInt8.toNat_inj.1;rw [byte_natI,hn];omega
  congr 1
  ·apply UInt8.toNat_inj.1;rw [byte_natI,hn];omega
  congr 1
  ·apply UInt8.toNat_inj.1;rw [byte_natI,hn];omega
  congr 1
  ·apply UInt8.toNat_inj.1;rw [byte_natI,hn];omega
  congr 1
  ·apply UInt8.toNat_inj.1;rw [byte_natI,hn];omega
  congr 1
  ·apply UInt8.toNat_inj.1;rw [byte_natI,hn];omega
  congr 1
  ·apply UInt8.toNat_inj.1;rw [byte_natI,hn];omega
theorem ofInt_toInt (n:Int) (h:wf64 n):(BitVec.ofInt 64 n).toInt=n:=by
 rw [BitVec.toInt_ofInt]
 simp only [wf64,Lit.wf,IntKind.min,IntKind.max,IntKind.signed,IntKind.bits] at h
 simp at h
 rw [Int.bmod_def]
 split<;>omega
structure Codec {α:Type} (ok:α→Prop) (enc:α→List UInt8) (rd:List UInt8→Nat→Rd α):Prop where
 back:∀x pre post,ok x→rd (pre++(enc x++post)) pre.length= .ok (x,pre.length+(enc x).length)
 fwd:∀bs a x b,a≤bs.length→rd bs a= .ok (x,b)→ok x∧b=a+(enc x).length∧b≤bs.length∧(bs.drop a).take (enc x).length=enc x
 err:∀bs a p,a≤bs.length→rd bs a= .error p→p≤bs.length
theorem codec_num:Codec wf64 be8 rdNum:=by
 refine ⟨fun x pre post hx=> ?_,fun bs a x b ha h=> ?_,fun bs a p ha h=> ?_⟩
 ·unfold rdNum
  have hl:=be8_length x
  rw [if_neg (by simp only [List.length_append];omega),List.drop_left,List.take_append_of_le_length (by omega),List.take_of_length_le (by omega),hl,be8_eq,rdB_be8B,ofInt_toInt x hx]
 ·unfold rdNum at h
  split at h
  ·cases h
  ·rename_i hle
   cases h
   have hl:((bs.drop a).take 8).length=8:=by rw [List.length_take,List.length_drop];omega
   have e:be8 (rdB ((bs.drop a).take 8)).toInt=(bs.drop a).take 8:=by
    rw [be8_eq,BitVec.ofInt_toInt,be8B_rdB _ hl]
   refine ⟨?_,by rw [be8_length],by omega,by rw [be8_length,e]⟩
   have h1:=BitVec.toInt_lt (x:=rdB ((bs.drop a).take 8))
   have h2:=BitVec.le_toInt (x:=rdB ((bs.drop a).take 8))
   simp only [wf64,Lit.wf,IntKind.min,IntKind.max,IntKind.signed,IntKind.bits]
   simp at h1 h2⊢
   omega
 ·unfold rdNum at h
  split at h
  ·cases h;exact Nat.le_refl _
  ·cases h
theorem wf8_64' {n:Int} (h:wf8 n):wf64 n∧-128≤n∧n≤127:=by
 simp only [wf8,wf64,Lit.wf,IntKind.min,IntKind.max,IntKind.signed,IntKind.bits] at*
 simp at*
 omega
theorem wf8_of {n:Int} (h:¬(n< -128∨127<n)):wf8 n:=by
 simp only [wf8,Lit.wf,IntKind.min,IntKind.max,IntKind.signed,IntKind.bits]
 simp
 omega
theorem codec_small:Codec wf8 be8 rdSmall:=by
 refine ⟨fun x pre post hx=> ?_,fun bs a x b ha h=> ?_,fun bs a p ha h=> ?_⟩
 ·obtain ⟨h1,h2⟩:=wf8_64' hx
  unfold rdSmall
  rw [codec_num.back x pre post h1]
  dsimp only
  rw [if_neg (by omega)]
 ·unfold rdSmall at h
  cases hn:rdNum bs a with
  |error p=>rw [hn] at h;cases h
  |ok v=>
   rw [hn] at h
   dsimp only at h
   split at h
   ·cases h
   ·rename_i ho
    cases h
    have:=codec_num.fwd bs a v.1 v.2 ha hn
    exact ⟨wf8_of ho,this.2⟩
 ·unfold rdSmall at h
  cases hn:rdNum bs a with
  |error p'=>rw [hn] at h;cases h;exact codec_num.err bs a _ ha hn
  |ok v=>
   rw [hn] at h
   dsimp only at h
   split at h
   ·cases h;exact ha
   ·cases h
section
variable {α β:Type} {ok1:α→Prop} {ok2:β→Prop} {enc1:α→List UInt8} {enc2:β→List UInt8} {rd1:List UInt8→Nat→Rd α} {rd2:List UInt8→Nat→Rd β}
theorem Codec.seq (h1:Codec ok1 enc1 rd1) (h2:Codec ok2 enc2 rd2):Codec (fun xy:α×β=>ok1 xy.1∧ok2 xy.2) (fun xy=>enc1 xy.1++enc2 xy.2) (fun bs a=>thn (rd1 bs a) fun x a=>thn (rd2 bs a) fun y a=> .ok ((x,y),a)):=by
 refine ⟨fun x pre post hx=> ?_,fun bs a x b ha h=> ?_,fun bs a p ha h=> ?_⟩
 ·have e1:pre++(enc1 x.1++enc2 x.2++post)=pre++(enc1 x.1++(enc2 x.2++post)):=by rw [List.append_assoc]
  have e2:pre++(enc1 x.1++(enc2 x.2++post))=(pre++enc1 x.1)++(enc2 x.2++post):=by simp
  (try dsimp only)
  rw [e1,h1.back x.1 pre _ hx.1]
  dsimp only [thn]
  rw [e2,←List.length_append,h2.back x.2 (pre++enc1 x.1) post hx.2]
  dsimp only
  simp only [List.length_append,Nat.add_assoc]
 ·(try dsimp only at h)
  cases hr1:rd1 bs a with
  |error p=>rw [hr1] at h;cases h
  |ok v=>
   rw [hr1] at h
   dsimp only [thn] at h
   obtain ⟨o1,e1,l1,t1⟩:=h1.fwd bs a v.1 v.2 ha hr1
   cases hr2:rd2 bs v.2 with
   |error p=>rw [hr2] at h;cases h
   |ok u=>
    rw [hr2] at h
    dsimp only at h
    cases h
    obtain ⟨o2,e2,l2,t2⟩:=h2.fwd bs v.2 u.1 u.2 l1 hr2
    refine ⟨⟨o1,o2⟩,by dsimp only;rw [List.length_append];omega,l2,?_⟩
    (try dsimp only)
    rw [List.length_append,List.take_add,t1,List.drop_drop,←e1,t2]
 ·(try dsimp only at h)
  cases hr1:rd1 bs a with
  |error p'=>rw [hr1] at h;cases h;exact h1.err bs a _ ha hr1
  |ok v=>
   rw [hr1] at h
   dsimp only [thn] at h
   obtain ⟨o1,e1,l1,t1⟩:=h1.fwd bs a v.1 v.2 ha hr1
   cases hr2:rd2 bs v.2 with
   |error p'=>rw [hr2] at h;cases h;exact h2.err bs v.2 _ l1 hr2
   |ok u=>rw [hr2] at h;cases h
theorem Codec.iso (h:Codec ok1 enc1 rd1) (f:α→β) (g:β→α) (hgf:∀x,g (f x)=x) (hfg:∀y,f (g y)=y) (hok:∀x,ok2 (f x)↔ok1 x) (henc:∀x,enc2 (f x)=enc1 x) (hrd:∀bs a,rd2 bs a=thn (rd1 bs a) fun x a=> .ok (f x,a)):Codec ok2 enc2 rd2:=by
 refine ⟨fun y pre post hy=> ?_,fun bs a y b ha h'=> ?_,fun bs a p ha h'=> ?_⟩
 ·rw [←hfg y] at hy⊢
  rw [hrd,henc,h.back (g y) pre post ((hok _).1 hy)]
  rfl
 ·rw [hrd] at h'
  cases hr:rd1 bs a with
  |error p=>rw [hr] at h';cases h'
  |ok v=>
   rw [hr] at h'
   cases h'
   obtain ⟨o1,e1,l1,t1⟩:=h.fwd bs a v.1 v.2 ha hr
   exact ⟨(hok _).2 o1,by rw [henc];exact e1,l1,by rw [henc];exact t1⟩
 ·rw [hrd] at h'
  cases hr:rd1 bs a with
  |error p'=>rw [hr] at h';cases h';exact h.err bs a _ ha hr
  |ok v=>rw [hr] at h';cases h'
theorem codec_many (h:Codec ok1 enc1 rd1):∀(l:List α) (pre post:List UInt8),(∀x∈l,ok1 x)→rdMany (rd1 (pre++(l.flatMap enc1++post))) l.length pre.length= .ok (l,pre.length+(l.flatMap enc1).length)
 | [],pre,post,_=>by simp [rdMany]
 |x::l,pre,post,hx=>by
  have e1:pre++((x::l).flatMap enc1++post)=pre++(enc1 x++(l.flatMap enc1++post)):=by simp
  have e2:pre++(enc1 x++(l.flatMap enc1++post))=(pre++enc1 x)++(l.flatMap enc1++post):=by simp
  rw [List.length_cons,rdMany,e1,h.back x pre _ (hx x (by simp))]
  dsimp only
  rw [e2,←List.length_append,codec_many h l (pre++enc1 x) post (fun y hy=>hx y (by simp [hy]))]
  dsimp only
  simp [Nat.add_assoc]
theorem codec_many_fwd (h:Codec ok1 enc1 rd1) (bs:List UInt8):∀(n a:Nat) (l:List α) (b:Nat),a≤bs.length→rdMany (rd1 bs) n a= .ok (l,b)→l.length=n∧(∀x∈l,ok1 x)∧b=a+(l.flatMap enc1).length∧b≤bs.length∧(bs.drop a).take (l.flatMap enc1).length=l.flatMap enc1
 |0,a,l,b,ha,hr=>by
  simp only [rdMany] at hr
  cases hr
  exact ⟨rfl,by simp,by simp,ha,by simp⟩
 |n+1,a,l,b,ha,hr=>by
  simp only [rdMany] at hr
  cases hr1:rd1 bs a with
  |error p=>rw [hr1] at hr;cases hr
  |ok v=>
   rw [hr1] at hr
   dsimp only at hr
   obtain ⟨o1,e1,l1,t1⟩:=h.fwd bs a v.1 v.2 ha hr1
   cases hr2:rdMany (rd1 bs) n v.2 with
   |error p=>rw [hr2] at hr;cases hr
   |ok u=>
    rw [hr2] at hr
    dsimp only at hr
    cases hr
    obtain ⟨n2,o2,e2,l2,t2⟩:=codec_many_fwd h bs n v.2 u.1 u.2 l1 hr2
    refine ⟨by simp [n2],?_,by rw [List.flatMap_cons,List.length_append];omega,l2,?_⟩
    ·intro x hx
     rcases List.mem_cons.1 hx with rfl|hx
     ·exact o1
     ·exact o2 x hx
    ·rw [List.flatMap_cons,List.length_append,List.take_add,t1,List.drop_drop,←e1,t2]
theorem codec_many_err (h:Codec ok1 enc1 rd1) (bs:List UInt8):∀(n a p:Nat),a≤bs.length→rdMany (rd1 bs) n a= .error p→p≤bs.length
 |0,a,p,ha,hr=>by simp only [rdMany] at hr;cases hr
 |n+1,a,p,ha,hr=>by
  simp only [rdMany] at hr
  cases hr1:rd1 bs a with
  |error p'=>rw [hr1] at hr;cases hr;exact h.err bs a _ ha hr1
  |ok v=>
   rw [hr1] at hr
   dsimp only at hr
   obtain ⟨o1,e1,l1,t1⟩:=h.fwd bs a v.1 v.2 ha hr1
   cases hr2:rdMany (rd1 bs) n v.2 with
   |error p'=>rw [hr2] at hr;cases hr;exact codec_many_err h bs n v.2 _ l1 hr2
   |ok u=>rw [hr2] at hr;cases hr
theorem flat_len {each:Nat} (he:∀x,(enc1 x).length=each):∀l:List α,(l.flatMap enc1).length=l.length*each
 | []=>by simp
 |x::l=>by rw [List.flatMap_cons,List.length_append,he,flat_len he l,List.length_cons,Nat.add_mul,Nat.one_mul,Nat.add_comm]
theorem codec_list (h:Codec ok1 enc1 rd1) (each:Nat) (hp:0<each) (he:∀x,(enc1 x).length=each):
  Codec (fun l:List α=>(∀x∈l,ok1 x)∧wf64 (l.length:Int)) (fun l=>be8 (l.length:Int)++l.flatMap enc1) (fun bs a=>rdList bs each (rd1 bs) a):=by
 refine ⟨fun l pre post hl=> ?_,fun bs a l b ha hr=> ?_,fun bs a p ha hr=> ?_⟩
 ·have e1:pre++(be8 (l.length:Int)++l.flatMap enc1++post)=pre++(be8 (l.length:Int)++(l.flatMap enc1++post)):=by rw [List.append_assoc]
  have e2:pre++(be8 (l.length:Int)++(l.flatMap enc1++post))=(pre++be8 (l.length:Int))++(l.flatMap enc1++post):=by simp
  (try dsimp only)
  unfold rdList
  rw [e1,codec_num.back _ pre _ hl.2]
  dsimp only
  have hfl:=flat_len he l
  have hge:(l.length:Int)≤(((pre++(be8 (l.length:Int)++(l.flatMap enc1++post))).length:Int)-((pre.length+(be8 (l.length:Int)).length:Nat):Int)).tdiv (each:Int):=by
   rw [Int.tdiv_eq_ediv_of_nonneg (by simp only [List.length_append];omega)]
   refine (Int.le_ediv_iff_mul_le (by omega)).2 ?_
   simp only [List.length_append,hfl]
   push_cast
   omega
  rw [if_neg (by omega),e2,←List.length_append,Int.toNat_natCast,codec_many h l (pre++be8 (l.length:Int)) post hl.1]
  simp [Nat.add_assoc]
 ·(try dsimp only at hr)
  unfold rdList at hr
  cases hn:rdNum bs a with
  |error p=>rw [hn] at hr;cases hr
  |ok v=>
   rw [hn] at hr
   dsimp only at hr
   split at hr
   ·cases hr
   ·rename_i ho
    obtain ⟨o1,e1,l1,t1⟩:=codec_num.fwd bs a v.1 v.2 ha hn
    obtain ⟨n2,o2,e2,l2,t2⟩:=codec_many_fwd h bs v.1.toNat v.2 l b l1 hr
    have hv:v.1=(l.length:Int):=by omega
    rw [hv] at o1 e1 t1
    refine ⟨⟨o2,o1⟩,by rw [List.length_append];omega,l2,?_⟩
    (try dsimp only)
    rw [List.length_append,List.take_add,t1,List.drop_drop,←e1,t2]
 ·(try dsimp only at hr)
  unfold rdList at hr
  cases hn:rdNum bs a with
  |error p'=>rw [hn] at hr;cases hr;exact codec_num.err bs a _ ha hn
  |ok v=>
   rw [hn] at hr
   dsimp only at hr
   obtain ⟨o1,e1,l1,t1⟩:=codec_num.fwd bs a v.1 v.2 ha hn
   split at hr
   ·cases hr;exact ha
   ·exact codec_many_err h bs _ v.2 p l1 hr
end
theorem thn_assoc {α β γ:Type} (x:Rd α) (f:α→Nat→Rd β) (g:β→Nat→Rd γ):thn (thn x f) g=thn x fun v a=>thn (f v a) g:=by cases x<;>rfl
theorem thn_ok' {α β:Type} (v:α) (a:Nat) (f:α→Nat→Rd β):thn (.ok (v,a)) f=f v a:=rfl
def okL (l:List Int):Prop:=(∀x∈l,wf64 x)∧wf64 (l.length:Int)
theorem codec_ints:Codec okL encL rdInts:=codec_list codec_num 8 (by omega) be8_length
def okR (u:PairL):Prop:=wf64 u.at_∧wf64 u.by_
theorem codec_pair:Codec okR pairB rdPair:=
 (codec_num.seq codec_num).iso (fun x=>(⟨x.1,x.2⟩:PairL)) (fun u=>(u.at_,u.by_)) (fun _=>rfl) (fun _=>rfl) (fun _=>Iff.rfl) (fun _=>by simp [pairB]) (fun bs a=>by simp only [rdPair,thn_assoc,thn_ok'])
theorem pairB_len (u:PairL):(pairB u).length=16:=by simp [pairB,be8_length]
def okP (l:List PairL):Prop:=(∀x∈l,okR x)∧wf64 (l.length:Int)
theorem codec_pairs:Codec okP encP rdPairs:=codec_list codec_pair 16 (by omega) pairB_len
def okAction (p:ActionP):Prop:=wf8 p.op∧wf64 p.side∧wf64 p.place∧wf64 p.target∧okL p.ids∧okP p.pairs
theorem codec_action:Codec okAction actionI rdAction:=
 (codec_small.seq (codec_num.seq (codec_num.seq (codec_num.seq (codec_ints.seq codec_pairs))))).iso
  (fun x=>(⟨x.1,x.2.1,x.2.2.1,x.2.2.2.1,x.2.2.2.2.1,x.2.2.2.2.2⟩:ActionP)) (fun u=>(u.op,u.side,u.place,u.target,u.ids,u.pairs)) (fun _=>rfl) (fun _=>rfl) (fun _=>Iff.rfl) (fun _=>by simp [actionI]) (fun bs a=>by simp only [rdAction,thn_assoc,thn_ok'])
section
variable {α:Type} {ok:α→Prop} {enc:α→List UInt8} {rd:List UInt8→Nat→Rd α}
theorem Codec.whole_more (h:Codec ok enc rd) {x:α} (hx:ok x) (more:List UInt8):rdWhole rd (enc x++more)=if more=[] then .ok x else .error (enc x).length:=by
 unfold rdWhole
 have:=h.back x [] more hx
 simp only [List.nil_append,List.length_nil,Nat.zero_add] at this
 rw [this]
 dsimp only
 rw [List.length_append]
 cases more with
 |nil=>simp
 |cons y l=>simp
theorem Codec.whole_back (h:Codec ok enc rd) {x:α} (hx:ok x):rdWhole rd (enc x)= .ok x:=by
 have:=h.whole_more hx []
 rwa [List.append_nil,if_pos rfl] at this
theorem Codec.whole_fwd (h:Codec ok enc rd) {x:α} {bs:List UInt8} (hr:rdWhole rd bs= .ok x):ok x∧enc x=bs:=by
 unfold rdWhole at hr
 cases hr1:rd bs 0 with
 |error p=>rw [hr1] at hr;cases hr
 |ok v=>
  rw [hr1] at hr
  dsimp only at hr
  split at hr
  ·cases hr
  ·rename_i hl
   cases hr
   obtain ⟨o,e,l,t⟩:=h.fwd bs 0 v.1 v.2 (Nat.zero_le _) hr1
   refine ⟨o,?_⟩
   rw [List.drop_zero] at t
   rw [←t,List.take_of_length_le (by omega)]
end
theorem wf64_small {n:Nat} (h:n≤1000000000000000):wf64 (n:Int):=by
 simp only [wf64,Lit.wf,IntKind.min,IntKind.max,IntKind.signed,IntKind.bits]
 simp
 omega
theorem Ints.okL {w:World} {s:Sl} {l:List Int} (h:Ints w s l):okL l:=⟨h.2.2.2.2.2,wf64_small (by have h1:=h.2.1;have h2:=h.2.2.2.2.1;omega)⟩
theorem Pairs.okP {w:World} {s:Sl} {l:List PairL} (h:Pairs w s l):okP l:=⟨h.2.2.2.2.2,wf64_small (by have h1:=h.2.1;have h2:=h.2.2.2.2.1;omega)⟩
theorem ActionAt.ok {w:World} {p:ActionP} {h:ActionH} (a:ActionAt w p h):okAction p:=⟨a.op,a.side,a.place,a.target,a.ids.okL,a.pairs.okP⟩
end
end Go.Proofs.YtioigihakjlopaaGreat
