/- Texts put together and cut to what is used: ImRList. -/
import Derived.Test.YtioigihakjlopaaGreatVB07
namespace Go.Proofs.YtioigihakjlopaaGreat
set_option linter.unusedVariables false
set_option linter.unusedSimpArgs false
section
open Go.RowKit
set_option maxRecDepth 20000
theorem Turn.of_ge {n:Nat} {a b:World} (h:Below n a b):Turn (fun x=>n≤x) a b:=⟨h.os,h.tape,h.output,h.size,fun k _ hk=>h.block k (by omega)⟩
theorem Own.head {w:World} {B:Nat} {e:TypeId} {size:Nat} {a:Option Addr} {n c:Nat} {vs:List Value} (h:Own w B e size a n c vs) (hn:0<n):∃g,a=some ⟨g,0,none⟩:=by
 obtain ⟨g,_,h1,_⟩:=h.blk hn
 exact ⟨g,h1⟩
theorem rdNum_wf {bs:List UInt8} {a:Nat} {n:Int} {b:Nat} (h:rdNum bs a= .ok (n,b)):wf64 n:=by
 unfold rdNum at h
 split at h
 ·cases h
 ·cases h;exact wf64_toInt _
theorem pairs_length2 (l:List PairL):(l.flatMap PairL.cells).length=l.length*2:=by
 induction l with
 |nil=>rfl
 |cons x l ih=>rw [List.flatMap_cons,List.length_append,ih,List.length_cons];show 2+_=_;omega
theorem num_rr (w:World) (B:Nat) (q:RC) (xb i:Nat) (cs:Array Value) (t:TypeId) (v:Int) (hq:RAt w B q) (hB:B≤w.heap.size) (hx:Blk w xb cs t) (hi:HasRow cs i (bi v)) (hxB:B≤xb) (hxc:xb≠q.c):
  Calls Tryz.prog 148 #[.pointer (some ⟨q.c,0,none⟩),.pointer (some ⟨xb,i,none⟩)] w (RRes B w q (rdNum q.bs q.at_) (fun n=>putRow cs i (bi n)) xb t):=by
 refine (num_r w B q xb i cs t v hq hB hx (hi 0 (by show 0<1;omega)) hxB hxc).mono ?_
 rintro e w' ⟨h1,h2⟩
 unfold rdNum
 split
 ·rename_i h
  exact h1 h
 ·rename_i h
  exact h2 (by omega)
theorem pairsT2:RowType Tryz.prog 36 157 2 16:=RowType.mk (z:= .agg #[.int .i64 0,.int .i64 0]) Tryz.underlying36 (by kernel_rfl) rfl (by omega)
theorem intsT2:RowType Tryz.prog 34 3 1 8:=RowType.mk (z:= .int .i64 0) Tryz.underlying34 (by kernel_rfl) rfl (by omega)
theorem Own.last {w w':World} {B:Nat} {e:TypeId} {sz g n c:Nat} {xs ys zs:List Value} {cur:Array Value} (h:Own w B e sz (some ⟨g,0,none⟩) n c (xs++zs)) (hb:Blk w g cur e) (hb':Blk w' g (putRow cur xs.length ys) e) (hl:ys.length=zs.length):Own w' B e sz (some ⟨g,0,none⟩) n c (xs++ys):=by
 obtain ⟨h1,h2⟩:=h
 refine ⟨by rw [List.length_append,hl,←List.length_append];exact h1,?_⟩
 rcases h2 with ⟨h2,_⟩|⟨g',cap,cur',hv,hB,hg,h3,h4,h5,h6⟩
 ·simp at h2
 ·simp only [Value.slice.injEq,Option.some.injEq,Addr.mk.injEq,and_true,true_and] at hv
  obtain ⟨rfl,rfl⟩:=hv
  have e0:cur'=cur:=by
   have h7:w.heap[g]? =_:=hb
   rw [hg] at h7
   simpa using h7
  subst e0
  refine .inr ⟨g,c,putRow cur' xs.length ys,rfl,hB,hb',h3,h4,by rw [putRow_size];exact h5,?_⟩
  have hle:n*sz≤cur'.size:=by
   rw [h5];exact Nat.mul_le_mul_right _ h3
  rw [List.length_append] at h1
  apply List.ext_getElem?
  intro j
  by_cases hj:j<n*sz
  ·rw [List.getElem?_take_of_lt hj,Array.getElem?_toList]
   by_cases hx:j<xs.length
   ·rw [putRow_other _ _ _ _ (.inl hx),List.getElem?_append_left hx]
    have:=congrArg (fun l:List Value=>l[j]?) h6
    simp only [List.getElem?_take_of_lt hj,Array.getElem?_toList,List.getElem?_append_left hx] at this
    exact this
   ·have:=putRow_get ys cur' xs.length (j-xs.length) (by omega) (by omega)
    rw [show xs.length+(j-xs.length)=j by omega] at this
    rw [this,List.getElem?_append_right (by omega),List.getElem?_eq_getElem (by omega)]
  ·rw [List.getElem?_eq_none (by rw [List.length_take];omega),List.getElem?_eq_none (by rw [List.length_append];omega)]
def LRes {α:Type} (B:Nat) (w:World) (q:RC) (r:Rd α) (Ow:World→Sl→α→Prop) (f:Sl→Array Value) (xb:Nat) (t:TypeId) (e:Ending) (w':World):Prop:=match r with
 | .error p=>e= .panicked (wrongP p)∧RBad w q w' xb t
 | .ok (l,a)=>e= .returned (.tuple #[])∧∃s,Ow w' s l∧RGot B w q w' (q.to a) xb (f s) t
section
variable {α:Type} {B:Nat} {w w':World} {q:RC} {r:Rd α} {Ow:World→Sl→α→Prop} {f:Sl→Array Value} {xb:Nat} {t:TypeId} {e:Ending}
theorem LRes.err (h:LRes B w q r Ow f xb t e w') {p:Nat} (hr:r= .error p):e= .panicked (wrongP p)∧RBad w q w' xb t:=by subst hr;exact h
theorem LRes.ok (h:LRes B w q r Ow f xb t e w') {v:α} {a:Nat} (hr:r= .ok (v,a)):e= .returned (.tuple #[])∧∃s,Ow w' s v∧RGot B w q w' (q.to a) xb (f s) t:=by subst hr;exact h
end
def ListintR (w:World) (B:Nat) (q:RC) (xb i:Nat) (cs:Array Value) (t:TypeId) (N:Nat) (R0:Rd (List Int)) (f:Nat) (v50:Value) (wr:World):Prop:=
 ∃(k:Nat) (s:Sl) (l:List Int) (a:Nat),k+f=N∧v50= .int .i64 (k:Int)∧Own wr w.heap.size 3 1 s.a k s.c (l.map (Value.int .i64))∧s.n=k∧l.length=k∧(∀x∈l,wf64 x)∧RAt wr B (q.to a)∧Blk wr xb (cs.setIfInBounds i (.slice s.a k s.c)) t∧
  Turn (fun x=>x=q.c∨x=xb) w wr∧R0=(match rdMany (rdNum q.bs) (N-k) a with
   | .error p=> .error p
   | .ok (m,b)=> .ok (l++m,b))
set_option maxHeartbeats 4000000 in
theorem list_int_r (w:World) (B:Nat) (q:RC) (xb i:Nat) (cs:Array Value) (t:TypeId) (s0:Sl) (hq:RAt w B q) (hB:B≤w.heap.size) (hx:Blk w xb cs t) (hi:cs[i]? =some (.slice s0.a s0.n s0.c)) (hxB:B≤xb) (hxc:xb≠q.c):
  Calls Tryz.prog 147 #[.pointer (some ⟨q.c,0,none⟩),.pointer (some ⟨xb,i,none⟩),.int .i64 8,.func (.func 148) #[.pointer (some ⟨q.c,0,none⟩)] #[]] w (LRes B w q (rdInts q.bs q.at_) (fun W=>OwnInts W w.heap.size) (fun s=>cs.setIfInBounds i (.slice s.a s.n s.c)) xb t):=by
 have hxl:=hx.lt
 have hcl:=hq.blk.lt
 have hmx:=hq.max
 obtain ⟨sa,sn,sc⟩:=s0
 dsimp only at hi
 go_enter Tryz.func147,Tryz.ntmps147
 go_wp2_with fail
 have r1:∀W,Old w.drew W→W.cell? ⟨q.c,1,none⟩=some (.int .i64 (q.at_:Int)):=fun W hW=>by rw [hW.cell (p:=⟨q.c,1,none⟩) hcl];exact hq.blk.rule 1
 have r2:∀W,Old w.drew W→W.cell? ⟨xb,i,none⟩=some (.slice sa sn sc):=fun W hW=>by rw [hW.cell (p:=⟨xb,i,none⟩) hxl];exact (hx.rule i).trans hi
 refine wp_region_treeR true Old Old.refl Old.trans (.step 0 (.step 1 (.step 2 (.step 3 (.step 4 (.step 5 (.step 6 (.step 7 (.step 8 (.step 9 (.step 10 .done))))))))))) (by kernel_rfl) (by kernel_rfl) (fun c a d v w h=>by cases d<;>exact h) ?_
 repeat (first|(refine tree_skip rfl (by rfl) ?_;simp only [Act.put,List.setIfInBounds_toArray,List.set])|(refine tree_quiet (v:= ?_) rfl rfl (by rfl) ?_ ?_;rotate_left;(intro W hW;go_simp);(try with_reducible rfl);simp only [Act.put,List.setIfInBounds_toArray,List.set]))
 refine tree_loud rfl rfl (by rfl) (fun K hK=> ?_);go_wp2_with fail
 refine hK _ _ ((Below.refl _ _).alloc (Nat.le_refl _) _) ?_
 clear hK K r1 r2
 repeat (first|(refine tree_skip rfl (by rfl) ?_;simp only [Act.put,List.setIfInBounds_toArray,List.set])|(refine tree_quiet (v:= ?_) rfl rfl (by rfl) ?_ ?_;rotate_left;(intro W hW;go_simp);(try with_reducible rfl);simp only [Act.put,List.setIfInBounds_toArray,List.set]))
 refine tree_store rfl rfl (by rfl) (fun K hK=> ?_);go_wp2_with fail;refine tree_done ?_
 go_upto_region 1 with (fail)
 obtain ⟨Y,hY⟩:∃Y,Y=w.heap.size:=⟨_,rfl⟩
 rw [←hY]
 refine wp_forget (fun W=>(∃y:Int,Blk W Y #[.int .i64 y] 3)∧Below w.heap.size w W) ⟨⟨_,by rw [hY];exact (Blk.new w _ _).drew⟩,by (try unfold Kept);repeat (first|assumption|exact Below.refl _ _|exact below_undrew (Below.refl _ _)|exact Below.mono (by assumption) (by first|(simp;done)|(simp;omega)|omega)|refine below_setRow ?_ (by first|(simp;done)|(simp;omega)|omega) _|refine Below.setCell ?_ (by first|(simp;done)|(simp;omega)|omega) _|refine Below.alloc ?_ (by first|(simp;done)|(simp;omega)|omega) _|refine below_drewN ?_ _|refine Below.drew ?_|refine below_undrew ?_|refine below_step ?_ (by assumption))⟩ ?_
 rintro W1 ⟨⟨y0,hn1⟩,hb1⟩
 have hYB:B≤Y:=by omega
 have hYc:Y≠q.c:=by omega
 have hYx:xb≠Y:=by omega
 have hB1:=Nat.le_trans hB hb1.size
 have hq1:=hq.old hb1 hB
 have cb:=num_r W1 B q Y 0 _ _ _ hq1 hB1 hn1 rfl hYB hYc
 have hx1:=hx.old hb1
 have HY:=Lib.hid hY
 clear hY
 go_wp2_with fail
 refine cb.mono ?_
 clear cb
 rintro e w2 ⟨h1,h2⟩
 by_cases hmore:q.at_+8≤q.bs.length
 ·obtain ⟨rfl,hg⟩:=h2 hmore
  clear h1 h2
  have e0:rdNum q.bs q.at_= .ok (numAt q.bs q.at_,q.at_+8):=by unfold rdNum;rw [if_neg (by omega)];rfl
  have cn:=hg.blk.rule
  have wfn:=wf64_numAt q.bs q.at_
  obtain ⟨n,hn⟩:∃n,n=numAt q.bs q.at_:=⟨_,rfl⟩
  have cn2:w2.cell? ⟨Y,0,none⟩=some (.int .i64 n):=by rw [hn];exact cn 0
  have hn2:Blk w2 Y #[.int .i64 n] 3:=by rw [hn];exact hg.blk
  rw [←hn] at e0 wfn
  have hbel2:RBad w q w2 xb t:=RGot.loc hb1 hg (Nat.le_of_eq HY.out.symm) rfl hxc hxl
  have hq2:RAt w2 B (q.to (q.at_+8)):=hg.at'
  have hx2:Blk w2 xb cs t:=(hg.turn.block xb (Nat.lt_of_lt_of_le hxl hb1.size) (by rintro (h|h);exact hxc h;exact hYx h)).trans hx1
  have ht2:Turn (fun x=>x=q.c∨x=xb) w w2:=(Turn.of_below (F:=fun x=>x=q.c∨x=xb) hb1).trans hg.turn fun x hx=>by
   rcases hx with rfl|rfl
   ·exact .inl (.inl rfl)
   ·exact .inr (by have:=HY.out;omega)
  have cc:=hq2.blk.rule
  unfold rcells at cc
  have hcc:(q.to (q.at_+8)).c=q.c:=rfl
  have hca:(q.to (q.at_+8)).at_=q.at_+8:=rfl
  have hcb:(q.to (q.at_+8)).bs=q.bs:=rfl
  have hcx:(q.to (q.at_+8)).a=q.a:=rfl
  have hcp:(q.to (q.at_+8)).cap=q.cap:=rfl
  rw [hcc,hca,hcb,hcx,hcp] at cc
  have hsub:IntKind.i64.wrap ((q.bs.length:Int)-((q.at_+8:Nat):Int))=(q.bs.length:Int)-((q.at_+8:Nat):Int):=by rw [IntKind.wrap_i64];omega
  clear cn hn hn1 hg
  have HX2:=Lib.hid hx2
  have HT2:=Lib.hid ht2
  go_upto_region 3 with (fail)
  by_cases o1:n<0
  ·have d1:decide (n<0)=true:=by simp;omega
   have HR:=Lib.hid (show rdInts q.bs q.at_= .error q.at_ by unfold rdInts rdList;rw [e0];dsimp only;rw [if_pos (.inl o1)])
   have HB2:=Lib.hid hbel2
   go_quiet (fail)
   go_wp2_with fail
   refine ⟨rfl,?_⟩
   rw [HR.out]
   exact ⟨rfl,HB2.out.drewN _⟩
  ·have d1:decide (n<0)=false:=by simp;omega
   have hdv:((q.bs.length:Int)-((q.at_+8:Nat):Int)).tdiv 8=((q.bs.length:Int)-((q.at_:Int)+8))/8:=by
    rw [Int.tdiv_eq_ediv_of_nonneg (by omega)]
    rfl
   by_cases o2:((q.bs.length:Int)-((q.at_:Int)+8))/8<n
   ·have d2:decide (((q.bs.length:Int)-((q.at_:Int)+8))/8<n)=true:=by simpa using o2
    have HR:=Lib.hid (show rdInts q.bs q.at_= .error q.at_ by unfold rdInts rdList;rw [e0];dsimp only;rw [if_pos (.inr (by rw [show ((((8:Nat):Int)))=(8:Int) from rfl,hdv];exact o2))])
    have HB2:=Lib.hid hbel2
    clear o2 hdv
    go_quiet (fail)
    go_wp2_with fail
    refine ⟨rfl,?_⟩
    rw [HR.out]
    exact ⟨rfl,HB2.out.drewN _⟩
   ·have d2:decide (((q.bs.length:Int)-((q.at_:Int)+8))/8<n)=false:=by simpa using o2
    obtain ⟨N,hN⟩:∃N:Nat,n=(N:Int):=⟨n.toNat,by omega⟩
    have hNl:N≤200000:=by omega
    have HR:=Lib.hid (show rdInts q.bs q.at_=rdMany (rdNum q.bs) N (q.at_+8) by
     unfold rdInts rdList
     rw [e0]
     dsimp only
     rw [if_neg (by rw [show ((((8:Nat):Int)))=(8:Int) from rfl,hdv];omega),hN]
     rfl)
    subst hN
    clear o2 hdv e0
    go_quiet (fail)
    go_upto_region 5 with (fail)
    refine wp_forget (fun W=>Blk W xb cs t∧RAt W B (q.to (q.at_+8))∧Turn (fun x=>x=q.c∨x=xb) w W∧Blk W Y #[.int .i64 (N:Int)] 3) ⟨HX2.out,hq2.keep rfl (below_drewN (Below.refl _ _) _),HT2.out.drewN _,hn2⟩ ?_
    clear hx2 ht2 hq2 hn2 cn2 hbel2 cc HX2 HT2
    rintro w3 ⟨hx3,hq3,ht3,hn3⟩
    have cx3:=hx3.rule i
    rw [hi] at cx3
    have fx3:=hx3.free
    have cn3:=hn3.rule
    have hst:ListintR w B q xb i cs t N (rdMany (rdNum q.bs) N (q.at_+8)) N (.int .i64 0) (w3.setCell ⟨xb,i,none⟩ (.slice none 0 0)):=by
     refine ⟨0,⟨none,0,0⟩,[],q.at_+8,by omega,rfl,Own.nil _ _ _ _,rfl,rfl,by simp,hq3.keep (heap_setCell_other _ _ _ _ (Ne.symm hxc)) ((Below.refl _ _).setCell hxB _),hx3.set i _,ht3.setCell (.inl (.inr rfl)) _,?_⟩
     rw [Nat.sub_zero]
     cases rdMany (rdNum q.bs) N (q.at_+8) with
     |error p=>rfl
     |ok v=>rfl
    go_wp2_with fail
    go_loopg [50] N (ListintR w B q xb i cs t N (rdMany (rdNum q.bs) N (q.at_+8)))
    case atStart=>exact hst
    case round=>
     clear hst cx3 fx3 cn3 hx3 hq3 ht3 hn3
     obtain ⟨k,s,l,a,hk,rfl,hown,hsn,hll,hwf,hqr,hxr,htr,hR⟩:=hrel
     have HRR:=Lib.hid hR
     clear hR
     by_cases hlt:k<N
     ·have t0:decide ((k:Int)<(N:Int))=true:=by simp;omega
      have cx:=hxr.rule i
      rw [Array.getElem?_setIfInBounds,if_pos rfl,if_pos (by have:=Array.getElem?_eq_some_iff.1 hi;exact this.1)] at cx
      have fx:=hxr.free
      have cc:=hqr.blk.rule
      unfold rcells at cc
      have hcc:(q.to a).c=q.c:=rfl
      rw [hcc] at cc
      have hzr:=htr.size
      have hA:=hown.alloc (.cells #[.int .i64 0] 3)
      go_wp2_with (at_builtin;refine wpList_append_row rfl _ _ 34 rfl intsT2 rfl hA rfl (RowAt.new' _ _ _ _ rfl) (by rfl) (by exact all_one _ rfl) (by unfold maxLen;omega) (by omega) (by simp;omega) ?_)
      intro a2 c2 w4 hown4 hg4
      have hb4:Below w.heap.size wr w4:=hA.grown ((Below.refl _ _).alloc hzr _) (Nat.le_refl _) hg4 (by simp;omega)
      have hx4:=(hb4.block xb hxl).trans hxr
      replace hx4:Blk w4 xb _ t:=hx4
      have cx4:=hx4.rule i
      rw [Array.getElem?_setIfInBounds,if_pos rfl,if_pos (by have:=Array.getElem?_eq_some_iff.1 hi;exact this.1)] at cx4
      have fx4:=hx4.free
      go_upto_region 12 with (fail)
      refine wp_forget (fun W=>Blk W xb (cs.setIfInBounds i (.slice a2 (k+1) c2)) t∧RAt W B (q.to a)∧Own W w.heap.size 3 1 a2 (k+1) c2 (l.map (Value.int .i64)++bi 0)∧Turn (fun x=>x=q.c∨x=xb) w W) ⟨?_,?_,?_,?_⟩ ?_
      ·have:=hx4.set i (.slice a2 (k+1) c2)
       rw [Array.setIfInBounds_setIfInBounds] at this
       exact this
      ·exact hqr.keep ((heap_setCell_other _ _ _ _ (Ne.symm hxc)).trans (hb4.block q.c hcl)) ((hb4.mono hB).trans ((Below.refl _ _).setCell hxB _))
      ·exact hown4.setCell_lt _ _ hxl
      ·exact (htr.trans (Turn.of_ge hb4) fun x hx=> .inr hx).setCell (.inl (.inr rfl)) _
      clear cx fx cc cx4 fx4 hx4 hown4 hg4 hb4 hA hown hxr hqr htr
      rintro w5 ⟨hx5,hq5,hown5,ht5⟩
      have hz5:=ht5.size
      have hB5:=Nat.le_trans hB hz5
      obtain ⟨g,hgd⟩:=hown5.head (by omega)
      subst hgd
      obtain ⟨hgw,_,cur,hcur⟩:=hown5.block_lt rfl
      replace hcur:Blk w5 g cur 3:=hcur
      replace hgw:w.heap.size≤g:=hgw
      have hvl:(l.map (Value.int .i64)).length=k*1:=by rw [List.length_map,hll,Nat.mul_one]
      have hrow:HasRow cur (k*1) (bi 0):=fun j hj=>by
       obtain ⟨b',o',e1,e2⟩:=hown5.row (k*1+j) (by rw [List.length_append,hvl];omega)
       cases e1
       rw [Nat.zero_add] at e2
       have e3:=hcur.rule (k*1+j)
       rw [e2,List.getElem_append_right (by omega)] at e3
       rw [←e3]
       simp [hvl]
      have cx5:=hx5.rule i
      rw [Array.getElem?_setIfInBounds,if_pos rfl,if_pos (by have:=Array.getElem?_eq_some_iff.1 hi;exact this.1)] at cx5
      have hgc:g≠q.c:=by omega
      have hgx:xb≠g:=by omega
      have cb:=num_rr w5 B (q.to a) g (k*1) cur 3 0 hq5 hB5 hcur hrow (by show B≤g;omega) hgc
      have hcc:(q.to a).c=q.c:=rfl
      rw [hcc] at cb
      rw [Nat.mul_one] at cb
      go_wp2_with fail
      refine cb.mono ?_
      clear cb
      rintro e w6 hres
      obtain ⟨m,hm⟩:∃m,N-k=m+1:=⟨N-k-1,by omega⟩
      have hR2:=HRR.out
      rw [hm] at hR2
      cases hone:rdNum q.bs a with
      |error p=>
       obtain ⟨rfl,hbE⟩:=hres.err hone
       have HR3:=Lib.hid (show rdMany (rdNum q.bs) N (q.at_+8)= .error p by
        rw [hR2]
        simp only [rdMany,hone])
       have hx6:Blk w6 xb _ t:=(hbE.turn.block xb (by omega) (by rintro (h|h);exact hxc h;exact hgx h)).trans hx5
       have hbB:RBad w q w6 xb t:=RBad.of hx (ht5.trans hbE.turn fun x hx=>by
        rcases hx with rfl|rfl
        ·exact .inl (.inl rfl)
        ·exact .inr hgw) hx6 (by simp)
       clear hres hR2 hone hx6
       go_wp2_with fail
       refine ⟨rfl,?_⟩
       rw [HR.out,HR3.out]
       exact ⟨rfl,hbB⟩
      |ok va=>
       obtain ⟨v,a'⟩:=va
       obtain ⟨rfl,hg6⟩:=hres.ok hone
       have hvw:wf64 v:=rdNum_wf hone
       have hown6:=hown5.last (ys:=bi v) hcur (by rw [hvl];first|exact hg6.blk|(rw [Nat.mul_one];exact hg6.blk)) rfl
       have hx6:Blk w6 xb _ t:=(hg6.turn.block xb (by omega) (by rintro (h|h);exact hxc h;exact hgx h)).trans hx5
       have ht6:Turn (fun x=>x=q.c∨x=xb) w w6:=ht5.trans hg6.turn fun x hx=>by
        rcases hx with rfl|rfl
        ·exact .inl (.inl rfl)
        ·exact .inr hgw
       have hq6:RAt w6 B (q.to a'):=hg6.at'
       have HR3:=Lib.hid (show rdMany (rdNum q.bs) N (q.at_+8)=(match rdMany (rdNum q.bs) (N-(k+1)) a' with
        | .error p=> .error p
        | .ok (m,b)=> .ok ((l++ [v])++m,b)) by
        rw [hR2,show N-(k+1)=m by omega]
        simp only [rdMany,hone]
        cases rdMany (rdNum q.bs) m a' with
        |error p=>rfl
        |ok y=>simp)
       clear hres hR2 hone hg6 hrow hcur cx5
       go_wp2_with fail
       go_roundg (gk-1)
       case measure=>omega
       case rel=>
        refine ⟨k+1,⟨some ⟨g,0,none⟩,k+1,c2⟩,l++ [v],a',by omega,by go_num,by simpa [bi] using hown6,rfl,by simp [hll],?_,hq6,hx6,ht6,HR3.out⟩
        intro x hx
        rcases List.mem_append.1 hx with hx|hx
        ·exact hwf x hx
        ·rw [List.mem_singleton.1 hx];exact hvw
     ·have hkN:k=N:=by omega
      have HR2:=Lib.hid (show rdMany (rdNum q.bs) N (q.at_+8)= .ok (l,a) by
       rw [HRR.out,hkN,Nat.sub_self]
       simp [rdMany])
      have t0:decide ((k:Int)<(N:Int))=false:=by simp;omega
      go_wp2_with fail
      refine bodyPost_end (v:= .tuple #[]) (results_none rfl _ _ _) rfl ?_
      rw [HR.out,HR2.out]
      refine ⟨rfl,s,⟨by rw [hsn];exact hown,hown.row,by rw [hsn];exact hll,by rw [hsn];exact hown.le,hown.cap_le,by rw [hsn];omega,hwf⟩,hqr,htr,by show Blk wr xb (cs.setIfInBounds i (.slice s.a s.n s.c)) t;rw [hsn];exact hxr⟩
 ·obtain ⟨rfl,hb2⟩:=h1 (by omega)
  have hbel2:RBad w q w2 xb t:=RBad.loc hb1 hb2 (Nat.le_of_eq HY.out.symm) rfl hxc hxl
  have HR:=Lib.hid (show rdInts q.bs q.at_= .error q.bs.length by unfold rdInts rdList rdNum;rw [if_pos (by omega)])
  clear h1 h2
  go_wp2_with fail
  refine ⟨rfl,?_⟩
  rw [HR.out]
  exact ⟨rfl,hbel2⟩
def ListpairR (w:World) (B:Nat) (q:RC) (xb i:Nat) (cs:Array Value) (t:TypeId) (N:Nat) (R0:Rd (List PairL)) (f:Nat) (v50:Value) (wr:World):Prop:=
 ∃(k:Nat) (s:Sl) (l:List PairL) (a:Nat),k+f=N∧v50= .int .i64 (k:Int)∧Own wr w.heap.size 157 2 s.a k s.c (l.flatMap PairL.cells)∧s.n=k∧l.length=k∧(∀x∈l,x.wf)∧RAt wr B (q.to a)∧Blk wr xb (cs.setIfInBounds i (.slice s.a k s.c)) t∧
  Turn (fun x=>x=q.c∨x=xb) w wr∧R0=(match rdMany (rdPair q.bs) (N-k) a with
   | .error p=> .error p
   | .ok (m,b)=> .ok (l++m,b))
set_option maxHeartbeats 4000000 in
theorem list_pair_r (w:World) (B:Nat) (q:RC) (xb i:Nat) (cs:Array Value) (t:TypeId) (s0:Sl) (hq:RAt w B q) (hB:B≤w.heap.size) (hx:Blk w xb cs t) (hi:cs[i]? =some (.slice s0.a s0.n s0.c)) (hxB:B≤xb) (hxc:xb≠q.c):
  Calls Tryz.prog 149 #[.pointer (some ⟨q.c,0,none⟩),.pointer (some ⟨xb,i,none⟩),.int .i64 16,.func (.func 150) #[.pointer (some ⟨q.c,0,none⟩)] #[]] w (LRes B w q (rdPairs q.bs q.at_) (fun W=>OwnPairs W w.heap.size) (fun s=>cs.setIfInBounds i (.slice s.a s.n s.c)) xb t):=by
 have hxl:=hx.lt
 have hcl:=hq.blk.lt
 have hmx:=hq.max
 obtain ⟨sa,sn,sc⟩:=s0
 dsimp only at hi
 go_enter Tryz.func149,Tryz.ntmps149
 go_wp2_with fail
 have r1:∀W,Old w.drew W→W.cell? ⟨q.c,1,none⟩=some (.int .i64 (q.at_:Int)):=fun W hW=>by rw [hW.cell (p:=⟨q.c,1,none⟩) hcl];exact hq.blk.rule 1
 have r2:∀W,Old w.drew W→W.cell? ⟨xb,i,none⟩=some (.slice sa sn sc):=fun W hW=>by rw [hW.cell (p:=⟨xb,i,none⟩) hxl];exact (hx.rule i).trans hi
 refine wp_region_treeR true Old Old.refl Old.trans (.step 0 (.step 1 (.step 2 (.step 3 (.step 4 (.step 5 (.step 6 (.step 7 (.step 8 (.step 9 (.step 10 .done))))))))))) (by kernel_rfl) (by kernel_rfl) (fun c a d v w h=>by cases d<;>exact h) ?_
 repeat (first|(refine tree_skip rfl (by rfl) ?_;simp only [Act.put,List.setIfInBounds_toArray,List.set])|(refine tree_quiet (v:= ?_) rfl rfl (by rfl) ?_ ?_;rotate_left;(intro W hW;go_simp);(try with_reducible rfl);simp only [Act.put,List.setIfInBounds_toArray,List.set]))
 refine tree_loud rfl rfl (by rfl) (fun K hK=> ?_);go_wp2_with fail
 refine hK _ _ ((Below.refl _ _).alloc (Nat.le_refl _) _) ?_
 clear hK K r1 r2
 repeat (first|(refine tree_skip rfl (by rfl) ?_;simp only [Act.put,List.setIfInBounds_toArray,List.set])|(refine tree_quiet (v:= ?_) rfl rfl (by rfl) ?_ ?_;rotate_left;(intro W hW;go_simp);(try with_reducible rfl);simp only [Act.put,List.setIfInBounds_toArray,List.set]))
 refine tree_store rfl rfl (by rfl) (fun K hK=> ?_);go_wp2_with fail;refine tree_done ?_
 go_upto_region 1 with (fail)
 obtain ⟨Y,hY⟩:∃Y,Y=w.heap.size:=⟨_,rfl⟩
 rw [←hY]
 refine wp_forget (fun W=>(∃y:Int,Blk W Y #[.int .i64 y] 3)∧Below w.heap.size w W) ⟨⟨_,by rw [hY];exact (Blk.new w _ _).drew⟩,by (try unfold Kept);repeat (first|assumption|exact Below.refl _ _|exact below_undrew (Below.refl _ _)|exact Below.mono (by assumption) (by first|(simp;done)|(simp;omega)|omega)|refine below_setRow ?_ (by first|(simp;done)|(simp;omega)|omega) _|refine Below.setCell ?_ (by first|(simp;done)|(simp;omega)|omega) _|refine Below.alloc ?_ (by first|(simp;done)|(simp;omega)|omega) _|refine below_drewN ?_ _|refine Below.drew ?_|refine below_undrew ?_|refine below_step ?_ (by assumption))⟩ ?_
 rintro W1 ⟨⟨y0,hn1⟩,hb1⟩
 have hYB:B≤Y:=by omega
 have hYc:Y≠q.c:=by omega
 have hYx:xb≠Y:=by omega
 have hB1:=Nat.le_trans hB hb1.size
 have hq1:=hq.old hb1 hB
 have cb:=num_r W1 B q Y 0 _ _ _ hq1 hB1 hn1 rfl hYB hYc
 have hx1:=hx.old hb1
 have HY:=Lib.hid hY
 clear hY
 go_wp2_with fail
 refine cb.mono ?_
 clear cb
 rintro e w2 ⟨h1,h2⟩
 by_cases hmore:q.at_+8≤q.bs.length
 ·obtain ⟨rfl,hg⟩:=h2 hmore
  clear h1 h2
  have e0:rdNum q.bs q.at_= .ok (numAt q.bs q.at_,q.at_+8):=by unfold rdNum;rw [if_neg (by omega)];rfl
  have cn:=hg.blk.rule
  have wfn:=wf64_numAt q.bs q.at_
  obtain ⟨n,hn⟩:∃n,n=numAt q.bs q.at_:=⟨_,rfl⟩
  have cn2:w2.cell? ⟨Y,0,none⟩=some (.int .i64 n):=by rw [hn];exact cn 0
  have hn2:Blk w2 Y #[.int .i64 n] 3:=by rw [hn];exact hg.blk
  rw [←hn] at e0 wfn
  have hbel2:RBad w q w2 xb t:=RGot.loc hb1 hg (Nat.le_of_eq HY.out.symm) rfl hxc hxl
  have hq2:RAt w2 B (q.to (q.at_+8)):=hg.at'
  have hx2:Blk w2 xb cs t:=(hg.turn.block xb (Nat.lt_of_lt_of_le hxl hb1.size) (by rintro (h|h);exact hxc h;exact hYx h)).trans hx1
  have ht2:Turn (fun x=>x=q.c∨x=xb) w w2:=(Turn.of_below (F:=fun x=>x=q.c∨x=xb) hb1).trans hg.turn fun x hx=>by
   rcases hx with rfl|rfl
   ·exact .inl (.inl rfl)
   ·exact .inr (by have:=HY.out;omega)
  have cc:=hq2.blk.rule
  unfold rcells at cc
  have hcc:(q.to (q.at_+8)).c=q.c:=rfl
  have hca:(q.to (q.at_+8)).at_=q.at_+8:=rfl
  have hcb:(q.to (q.at_+8)).bs=q.bs:=rfl
  have hcx:(q.to (q.at_+8)).a=q.a:=rfl
  have hcp:(q.to (q.at_+8)).cap=q.cap:=rfl
  rw [hcc,hca,hcb,hcx,hcp] at cc
  have hsub:IntKind.i64.wrap ((q.bs.length:Int)-((q.at_+8:Nat):Int))=(q.bs.length:Int)-((q.at_+8:Nat):Int):=by rw [IntKind.wrap_i64];omega
  clear cn hn hn1 hg
  have HX2:=Lib.hid hx2
  have HT2:=Lib.hid ht2
  go_upto_region 3 with (fail)
  by_cases o1:n<0
  ·have d1:decide (n<0)=true:=by simp;omega
   have HR:=Lib.hid (show rdPairs q.bs q.at_= .error q.at_ by unfold rdPairs rdList;rw [e0];dsimp only;rw [if_pos (.inl o1)])
   have HB2:=Lib.hid hbel2
   go_quiet (fail)
   go_wp2_with fail
   refine ⟨rfl,?_⟩
   rw [HR.out]
   exact ⟨rfl,HB2.out.drewN _⟩
  ·have d1:decide (n<0)=false:=by simp;omega
   have hdv:((q.bs.length:Int)-((q.at_+8:Nat):Int)).tdiv 16=((q.bs.length:Int)-((q.at_:Int)+8))/16:=by
    rw [Int.tdiv_eq_ediv_of_nonneg (by omega)]
    rfl
   by_cases o2:((q.bs.length:Int)-((q.at_:Int)+8))/16<n
   ·have d2:decide (((q.bs.length:Int)-((q.at_:Int)+8))/16<n)=true:=by simpa using o2
    have HR:=Lib.hid (show rdPairs q.bs q.at_= .error q.at_ by unfold rdPairs rdList;rw [e0];dsimp only;rw [if_pos (.inr (by rw [show ((((16:Nat):Int)))=(16:Int) from rfl,hdv];exact o2))])
    have HB2:=Lib.hid hbel2
    clear o2 hdv
    go_quiet (fail)
    go_wp2_with fail
    refine ⟨rfl,?_⟩
    rw [HR.out]
    exact ⟨rfl,HB2.out.drewN _⟩
   ·have d2:decide (((q.bs.length:Int)-((q.at_:Int)+8))/16<n)=false:=by simpa using o2
    obtain ⟨N,hN⟩:∃N:Nat,n=(N:Int):=⟨n.toNat,by omega⟩
    have hNl:N≤200000:=by omega
    have HR:=Lib.hid (show rdPairs q.bs q.at_=rdMany (rdPair q.bs) N (q.at_+8) by
     unfold rdPairs rdList
     rw [e0]
     dsimp only
     rw [if_neg (by rw [show ((((16:Nat):Int)))=(16:Int) from rfl,hdv];omega),hN]
     rfl)
    subst hN
    clear o2 hdv e0
    go_quiet (fail)
    go_upto_region 5 with (fail)
    refine wp_forget (fun W=>Blk W xb cs t∧RAt W B (q.to (q.at_+8))∧Turn (fun x=>x=q.c∨x=xb) w W∧Blk W Y #[.int .i64 (N:Int)] 3) ⟨HX2.out,hq2.keep rfl (below_drewN (Below.refl _ _) _),HT2.out.drewN _,hn2⟩ ?_
    clear hx2 ht2 hq2 hn2 cn2 hbel2 cc HX2 HT2
    rintro w3 ⟨hx3,hq3,ht3,hn3⟩
    have cx3:=hx3.rule i
    rw [hi] at cx3
    have fx3:=hx3.free
    have cn3:=hn3.rule
    have hst:ListpairR w B q xb i cs t N (rdMany (rdPair q.bs) N (q.at_+8)) N (.int .i64 0) (w3.setCell ⟨xb,i,none⟩ (.slice none 0 0)):=by
     refine ⟨0,⟨none,0,0⟩,[],q.at_+8,by omega,rfl,Own.nil _ _ _ _,rfl,rfl,by simp,hq3.keep (heap_setCell_other _ _ _ _ (Ne.symm hxc)) ((Below.refl _ _).setCell hxB _),hx3.set i _,ht3.setCell (.inl (.inr rfl)) _,?_⟩
     rw [Nat.sub_zero]
     cases rdMany (rdPair q.bs) N (q.at_+8) with
     |error p=>rfl
     |ok v=>rfl
    go_wp2_with fail
    go_loopg [50] N (ListpairR w B q xb i cs t N (rdMany (rdPair q.bs) N (q.at_+8)))
    case atStart=>exact hst
    case round=>
     clear hst cx3 fx3 cn3 hx3 hq3 ht3 hn3
     obtain ⟨k,s,l,a,hk,rfl,hown,hsn,hll,hwf,hqr,hxr,htr,hR⟩:=hrel
     have HRR:=Lib.hid hR
     clear hR
     by_cases hlt:k<N
     ·have t0:decide ((k:Int)<(N:Int))=true:=by simp;omega
      have cx:=hxr.rule i
      rw [Array.getElem?_setIfInBounds,if_pos rfl,if_pos (by have:=Array.getElem?_eq_some_iff.1 hi;exact this.1)] at cx
      have fx:=hxr.free
      have cc:=hqr.blk.rule
      unfold rcells at cc
      have hcc:(q.to a).c=q.c:=rfl
      rw [hcc] at cc
      have hzr:=htr.size
      go_upto_region 11 with (fail)
      obtain ⟨Z,hZ⟩:∃Z,Z=wr.heap.size:=⟨_,rfl⟩
      rw [←hZ]
      refine wp_forget (fun W=>Blk W Z (PairL.cells ⟨0,0⟩).toArray 157∧Below wr.heap.size wr W) ⟨by rw [hZ];exact Blk.new wr _ _,by (try unfold Kept);repeat (first|assumption|exact Below.refl _ _|exact below_undrew (Below.refl _ _)|exact Below.mono (by assumption) (by first|(simp;done)|(simp;omega)|omega)|refine below_setRow ?_ (by first|(simp;done)|(simp;omega)|omega) _|refine Below.setCell ?_ (by first|(simp;done)|(simp;omega)|omega) _|refine Below.alloc ?_ (by first|(simp;done)|(simp;omega)|omega) _|refine below_drewN ?_ _|refine Below.drew ?_|refine below_undrew ?_|refine below_step ?_ (by assumption))⟩ ?_
      rintro W0 ⟨hz0,hb0⟩
      have hzl:=hz0.lt
      have hZw:wr.heap.size≤Z:=by omega
      have hrb:∀x,(Value.slice s.a k s.c).ownBlock=some x→w.heap.size≤x∧x<wr.heap.size:=fun x hx=>by
       cases hsa:s.a with
       |none=>rw [hsa] at hx;cases hx
       |some ad=>
        rw [hsa] at hx
        cases hx
        exact ⟨(hown.block_lt hsa).1,(hown.block_lt hsa).2.1⟩
      have hxZ:xb<Z:=by omega
      have hx0:=hxr.old hb0
      have hxl0:=hx0.lt
      have hbw0:Below w.heap.size wr W0:=hb0.mono hzr
      clear hZ cx fx cc
      have cx:=hx0.rule i
      rw [Array.getElem?_setIfInBounds,if_pos rfl,if_pos (by have:=Array.getElem?_eq_some_iff.1 hi;exact this.1)] at cx
      have r1:∀W,KeepAt (fun x=>x=xb∨x=Z) W0.drew W→W.cell? ⟨xb,i,none⟩=some (.slice s.a k s.c):=fun W hW=>(World.cell?_of_block (a:=⟨xb,i,none⟩) (hW.2 _ (.inl rfl))).trans cx
      have r2:∀W,KeepAt (fun x=>x=xb∨x=Z) W0.drew W→∀j,W.cell? ⟨Z,j,none⟩=(PairL.cells ⟨0,0⟩).toArray[j]? :=fun W hW j=>(show Blk W Z _ _ from (hW.2 _ (.inr rfl)).trans hz0).rule j
      unfold PairL.cells at r2
      have hA:=((hown.old hb0).drew).alloc (.cells #[.int .i64 0,.int .i64 0] 157)
      have fx:∀j,W0.frozen? ⟨xb,j,none⟩=false:=hx0.free
      refine wp_region_treeR true (KeepAt (fun x=>x=xb∨x=Z)) (KeepAt.refl _) (fun _ _ _ h1 h2=>KeepAt.trans h1 h2) (.step 0 (.step 1 (.step 2 (.step 3 (.step 4 (.step 5 (.step 6 (.step 7 (.step 8 .done))))))))) (by kernel_rfl) (by kernel_rfl) (fun c a d v w h=>by cases d<;>exact h) ?_
      repeat (first|(refine tree_skip rfl (by rfl) ?_;simp only [Act.put,List.setIfInBounds_toArray,List.set])|(refine tree_quiet (v:= ?_) rfl rfl (by rfl) ?_ ?_;rotate_left;(intro W hW;go_simp);(try with_reducible rfl);simp only [Act.put,List.setIfInBounds_toArray,List.set]))
      refine tree_loud rfl rfl (by rfl) (fun K hK=> ?_);go_wp2_with fail
      refine hK _ _ (KeepAt.below ((Below.refl _ _).alloc (Nat.le_refl _) _) (fun x hx=>by rcases hx with rfl|rfl;exact hxl0;exact hzl)) ?_
      clear hK K
      refine tree_loud rfl rfl (by rfl) (fun K hK=> ?_)
      refine wp_append_row (.tmp 60) (.tmp 62) 36 rfl pairsT2 rfl hA rfl (RowAt.new' _ _ _ _ (by rfl)) (by rfl) (by intro u hu;simp at hu;rcases hu with rfl|rfl<;>rfl) (by unfold maxLen;omega) (by omega) (by have:=hb0.size;simp;omega) ?_
      intro a2 c2 w4 hown4 hg4
      have hb4:Below w.heap.size wr w4:=hA.grown ((hbw0.drew).alloc (show w.heap.size≤W0.heap.size from by have:=hb0.size;omega) _) (Nat.le_refl _) hg4 (by simp;omega)
      refine hK _ _ ⟨hg4.size,fun x hx=> ?_⟩ ?_
      ·refine hg4.block x (by rcases hx with rfl|rfl<;>simp<;>omega) fun e=> ?_
       have:=hrb x e.symm
       rcases hx with rfl|rfl<;>omega
      clear hK K r1 r2
      have hx4:=(hb4.block xb hxl).trans hxr
      replace hx4:Blk w4 xb _ t:=hx4
      have cx4:=hx4.rule i
      rw [Array.getElem?_setIfInBounds,if_pos rfl,if_pos (by have:=Array.getElem?_eq_some_iff.1 hi;exact this.1)] at cx4
      have fx4:=hx4.free
      repeat (first|(refine tree_skip rfl (by rfl) ?_;simp only [Act.put,List.setIfInBounds_toArray,List.set])|(refine tree_quiet (v:= ?_) rfl rfl (by rfl) ?_ ?_;rotate_left;(intro W hW;go_simp);(try with_reducible rfl);simp only [Act.put,List.setIfInBounds_toArray,List.set]))
      refine tree_store rfl rfl (by rfl) (fun K hK=> ?_)
      go_wp2_with fail
      refine tree_done ?_
      have cc:=0
      go_upto_region 12 with (fail)
      refine wp_forget (fun W=>Blk W xb (cs.setIfInBounds i (.slice a2 (k+1) c2)) t∧RAt W B (q.to a)∧Own W w.heap.size 157 2 a2 (k+1) c2 (l.flatMap PairL.cells++PairL.cells ⟨0,0⟩)∧Turn (fun x=>x=q.c∨x=xb) w W) ⟨?_,?_,?_,?_⟩ ?_
      ·have:=hx4.set i (.slice a2 (k+1) c2)
       rw [Array.setIfInBounds_setIfInBounds] at this
       exact this
      ·exact hqr.keep ((heap_setCell_other _ _ _ _ (Ne.symm hxc)).trans (hb4.block q.c hcl)) ((hb4.mono hB).trans ((Below.refl _ _).setCell hxB _))
      ·exact hown4.setCell_lt _ _ hxl
      ·exact (htr.trans (Turn.of_ge hb4) fun x hx=> .inr hx).setCell (.inl (.inr rfl)) _
      clear cx fx cc cx4 fx4 hx4 hown4 hg4 hb4 hA hown hxr hqr htr
      rintro w5 ⟨hx5,hq5,hown5,ht5⟩
      have hz5:=ht5.size
      have hB5:=Nat.le_trans hB hz5
      obtain ⟨g,hgd⟩:=hown5.head (by omega)
      subst hgd
      obtain ⟨hgw,_,cur,hcur⟩:=hown5.block_lt rfl
      replace hcur:Blk w5 g cur 157:=hcur
      replace hgw:w.heap.size≤g:=hgw
      have hvl:(l.flatMap PairL.cells).length=k*2:=by rw [pairs_length2,hll]
      have hrow:HasRow cur (k*2) (PairL.cells ⟨0,0⟩):=fun j hj=>by
       obtain ⟨b',o',e1,e2⟩:=hown5.row (k*2+j) (by rw [List.length_append,hvl];omega)
       cases e1
       rw [Nat.zero_add] at e2
       have e3:=hcur.rule (k*2+j)
       rw [e2,List.getElem_append_right (by omega)] at e3
       rw [←e3]
       simp [hvl]
      have cx5:=hx5.rule i
      rw [Array.getElem?_setIfInBounds,if_pos rfl,if_pos (by have:=Array.getElem?_eq_some_iff.1 hi;exact this.1)] at cx5
      have hgc:g≠q.c:=by omega
      have hgx:xb≠g:=by omega
      have cb:=pair_r w5 B (q.to a) g (k*2) cur 157 ⟨0,0⟩ hq5 hB5 hcur hrow (by show B≤g;omega) hgc
      have hcc:(q.to a).c=q.c:=rfl
      rw [hcc] at cb
      skip
      go_wp2_with fail
      refine cb.mono ?_
      clear cb
      rintro e w6 hres
      obtain ⟨m,hm⟩:∃m,N-k=m+1:=⟨N-k-1,by omega⟩
      have hR2:=HRR.out
      rw [hm] at hR2
      cases hone:rdPair q.bs a with
      |error p=>
       obtain ⟨rfl,hbE⟩:=hres.err hone
       have HR3:=Lib.hid (show rdMany (rdPair q.bs) N (q.at_+8)= .error p by
        rw [hR2]
        simp only [rdMany,hone])
       have hx6:Blk w6 xb _ t:=(hbE.turn.block xb (by omega) (by rintro (h|h);exact hxc h;exact hgx h)).trans hx5
       have hbB:RBad w q w6 xb t:=RBad.of hx (ht5.trans hbE.turn fun x hx=>by
        rcases hx with rfl|rfl
        ·exact .inl (.inl rfl)
        ·exact .inr hgw) hx6 (by simp)
       clear hres hR2 hone hx6
       go_wp2_with fail
       refine ⟨rfl,?_⟩
       rw [HR.out,HR3.out]
       exact ⟨rfl,hbB⟩
      |ok va=>
       obtain ⟨v,a'⟩:=va
       obtain ⟨rfl,hg6⟩:=hres.ok hone
       have hvw:v.wf:=rdPair_wf hone
       have hown6:=hown5.last (ys:=v.cells) hcur (by rw [hvl];first|exact hg6.blk|(rw [Nat.mul_one];exact hg6.blk)) rfl
       have hx6:Blk w6 xb _ t:=(hg6.turn.block xb (by omega) (by rintro (h|h);exact hxc h;exact hgx h)).trans hx5
       have ht6:Turn (fun x=>x=q.c∨x=xb) w w6:=ht5.trans hg6.turn fun x hx=>by
        rcases hx with rfl|rfl
        ·exact .inl (.inl rfl)
        ·exact .inr hgw
       have hq6:RAt w6 B (q.to a'):=hg6.at'
       have HR3:=Lib.hid (show rdMany (rdPair q.bs) N (q.at_+8)=(match rdMany (rdPair q.bs) (N-(k+1)) a' with
        | .error p=> .error p
        | .ok (m,b)=> .ok ((l++ [v])++m,b)) by
        rw [hR2,show N-(k+1)=m by omega]
        simp only [rdMany,hone]
        cases rdMany (rdPair q.bs) m a' with
        |error p=>rfl
        |ok y=>simp)
       clear hres hR2 hone hg6 hrow hcur cx5
       go_wp2_with fail
       go_roundg (gk-1)
       case measure=>omega
       case rel=>
        refine ⟨k+1,⟨some ⟨g,0,none⟩,k+1,c2⟩,l++ [v],a',by omega,by go_num,by simpa [bi] using hown6,rfl,by simp [hll],?_,hq6,hx6,ht6,HR3.out⟩
        intro x hx
        rcases List.mem_append.1 hx with hx|hx
        ·exact hwf x hx
        ·rw [List.mem_singleton.1 hx];exact hvw
     ·have hkN:k=N:=by omega
      have HR2:=Lib.hid (show rdMany (rdPair q.bs) N (q.at_+8)= .ok (l,a) by
       rw [HRR.out,hkN,Nat.sub_self]
       simp [rdMany])
      have t0:decide ((k:Int)<(N:Int))=false:=by simp;omega
      go_wp2_with fail
      refine bodyPost_end (v:= .tuple #[]) (results_none rfl _ _ _) rfl ?_
      rw [HR.out,HR2.out]
      refine ⟨rfl,s,⟨by rw [hsn];exact hown,hown.row,by rw [hsn];exact hll,by rw [hsn];exact hown.le,hown.cap_le,by rw [hsn];omega,hwf⟩,hqr,htr,by show Blk wr xb (cs.setIfInBounds i (.slice s.a s.n s.c)) t;rw [hsn];exact hxr⟩
 ·obtain ⟨rfl,hb2⟩:=h1 (by omega)
  have hbel2:RBad w q w2 xb t:=RBad.loc hb1 hb2 (Nat.le_of_eq HY.out.symm) rfl hxc hxl
  have HR:=Lib.hid (show rdPairs q.bs q.at_= .error q.bs.length by unfold rdPairs rdList rdNum;rw [if_pos (by omega)])
  clear h1 h2
  go_wp2_with fail
  refine ⟨rfl,?_⟩
  rw [HR.out]
  exact ⟨rfl,hbel2⟩
end
end Go.Proofs.YtioigihakjlopaaGreat
