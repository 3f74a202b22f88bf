/- Texts put together and cut to what is used: ImW, ImWThing. -/
import Derived.Test.YtioigihakjlopaaGreatVB02
import Derived.Test.YtioigihakjlopaaGreatVB04
namespace Go.Proofs.YtioigihakjlopaaGreat
set_option linter.unusedVariables false
set_option linter.unusedSimpArgs false
section
open Go.RowKit
set_option maxRecDepth 20000
theorem bytesT':RowType Tryz.prog 22 5 1 1:=RowType.mk (z:= .int .u8 0) Tryz.underlying22 (by kernel_rfl) rfl (by omega)
structure WC where
 c:Nat
 a:Option Addr
 cap:Nat
 bs:List UInt8
def wfoot (q:WC) (x:Nat):Prop:=x=q.c∨q.a.map (·.block)=some x
def wcells (q:WC):Array Value:= #[.slice q.a q.bs.length q.cap,.int .i64 0,.bool false]
structure WAt (w:World) (B:Nat) (q:WC):Prop where
 ge:B≤q.c
 blk:Blk w q.c (wcells q) 184
 row:Own w B 5 1 q.a q.bs.length q.cap (q.bs.map bv)
structure WStep (B:Nat) (w:World) (q:WC) (w':World) (q':WC):Prop where
 turn:Turn (wfoot q) w w'
 at':WAt w' B q'
 foot':∀x,wfoot q' x→wfoot q x∨w.heap.size≤x
 c:q'.c=q.c
section
variable {w w' w'':World} {B:Nat} {q q' q'':WC}
theorem WAt.keep (h:WAt w B q) (hk:∀x,wfoot q x→w'.heap[x]? =w.heap[x]?):WAt w' B q:=
 ⟨h.ge,(hk _ (.inl rfl)).trans h.blk,h.row.keepAt fun x hx=>hk _ (.inr (by rw [hx];rfl))⟩
theorem WAt.lt (h:WAt w B q) {x:Nat} (hx:wfoot q x):B≤x∧x<w.heap.size:=by
 rcases hx with rfl|hx
 ·exact ⟨h.ge,h.blk.lt⟩
 ·rw [Option.map_eq_some_iff] at hx
  obtain ⟨ad,ha,rfl⟩:=hx
  obtain ⟨h1,h2,_⟩:=h.row.block_lt ha
  exact ⟨h1,h2⟩
theorem WAt.old (h:WAt w B q) (hb:Below w.heap.size w w'):WAt w' B q:=h.keep fun x hx=>hb.block x (h.lt hx).2
theorem WStep.refl (h:WAt w B q):WStep B w q w q:=⟨Turn.refl _ _,h,fun _ hx=> .inl hx,rfl⟩
theorem WStep.trans (h:WStep B w q w' q') (h':WStep B w' q' w'' q''):WStep B w q w'' q'':=
 ⟨h.turn.trans h'.turn h.foot',h'.at',fun x hx=>by
  rcases h'.foot' x hx with h1|h1
  ·exact h.foot' x h1
  ·exact .inr (Nat.le_trans h.turn.size h1),h'.c.trans h.c⟩
theorem WStep.pre {w0:World} (h:WStep B w q w' q') (hb:Below w0.heap.size w0 w):WStep B w0 q w' q':=
 ⟨(Turn.of_below (F:=wfoot q) hb).trans h.turn fun _ hx=> .inl hx,h.at',fun x hx=>by
  rcases h.foot' x hx with h1|h1
  ·exact .inl h1
  ·exact .inr (Nat.le_trans hb.size h1),h.c⟩
theorem WStep.below (h:WStep B w q w' q') (hq:WAt w B q) (hB:B≤w.heap.size):Below B w w':=h.turn.below (fun _ hx=>(hq.lt hx).1) hB
theorem WStep.blk (h:WStep B w q w' q') {b:Nat} {cs:Array Value} {t:TypeId} (hb:Blk w b cs t) (hf:¬wfoot q b):Blk w' b cs t∧¬wfoot q' b:=
 ⟨(h.turn.block b hb.lt hf).trans hb,fun hx=>by
  rcases h.foot' b hx with h1|h1
  ·exact hf h1
  ·have:=hb.lt;omega⟩
end
theorem rowB_imp {a:Option Addr} {c x:Nat} (h:rowB a c=some x):a.map (·.block)=some x:=by
 unfold rowB at h
 split at h
 ·cases h
 ·exact h
theorem rowB_pos {a:Option Addr} {c:Nat} (h:0<c):rowB a c=a.map (·.block):=by
 unfold rowB
 rw [if_neg (by omega)]
set_option maxHeartbeats 2000000 in
theorem byte_w (w:World) (B:Nat) (q:WC) (yb:Nat) (y:UInt8) (hq:WAt w B q) (hB:B≤w.heap.size) (hy:Blk w yb #[bv y] 5) (hf:¬wfoot q yb) (hz:q.bs.length<1000000000000):
  Calls Tryz.prog 179 #[.pointer (some ⟨q.c,0,none⟩),.pointer (some ⟨yb,0,none⟩)] w fun e w'=>e= .returned (.tuple #[])∧∃q',Hid (q'.bs=q.bs++ [y])∧WStep B w q w' q':=by
 have hc:=hq.blk.rule
 unfold wcells at hc
 have hcl:=hq.blk.lt
 have hyl:=hy.lt
 go_enter Tryz.func179,Tryz.ntmps179
 go_wp2_with fail
 have r1:∀W,KeepAt (fun x=>x=q.c∨x=yb) w.drew W→W.cell? ⟨q.c,0,none⟩=some (.slice q.a q.bs.length q.cap):=fun W hW=>(show Blk W q.c (wcells q) 184 from (hW.2 _ (.inl rfl)).trans hq.blk).rule 0
 have r2:∀W,KeepAt (fun x=>x=q.c∨x=yb) w.drew W→W.cell? ⟨yb,0,none⟩=some (.int .u8 (U8 y)):=fun W hW=>(show Blk W yb #[bv y] 5 from (hW.2 _ (.inr rfl)).trans hy).rule 0
 refine wp_region_treeR true (KeepAt (fun x=>x=q.c∨x=yb)) (KeepAt.refl _) (fun _ _ _ h1 h2=>KeepAt.trans h1 h2) (.step 0 (.step 1 (.step 2 (.step 3 (.step 4 (.step 5 (.step 6 (.step 7 (.step 8 (.step 9 (.step 10 (.step 11 (.step 12 .done))))))))))))) (by kernel_rfl) (by kernel_rfl) (fun c a d v w h=>by cases d<;>exact h) ?_
 repeat (first|(refine tree_skip rfl (by rfl) ?_;simp only [Act.put,List.setIfInBounds_toArray,List.set])|(refine tree_quiet (v:= ?_) rfl rfl (by rfl) ?_ ?_;rotate_left;(intro W hW;go_simp);(try with_reducible rfl);simp only [Act.put,List.setIfInBounds_toArray,List.set]))
 have hl1:=hq.row.drew.alloc (.cells #[.int .u8 (U8 y)] 5)
 refine tree_loud rfl rfl (by rfl) (fun K hK=> ?_);go_wp2_with fail
 refine hK _ _ (KeepAt.below ((Below.refl _ _).alloc (Nat.le_refl _) _) (fun x hx=>by rcases hx with rfl|rfl<;>assumption)) ?_
 clear hK K
 refine tree_loud rfl rfl (by rfl) (fun K hK=> ?_)
 refine wp_append_fresh (.tmp 13) (.tmp 17) 22 rfl bytesT' rfl hl1 rfl (RowAt.new' _ _ _ _ (by simp)) (by rfl) (by omega) (by exact all_one _ rfl) (by unfold maxLen;omega) (by omega) (by simp;omega) ?_
 intro a2 c2 w2 hown2 hg2 hfr2
 have hk2:KeepAt (fun x=>x=q.c∨x=yb) (w.drew.alloc (.cells #[.int .u8 (U8 y)] 5)) w2:=⟨hg2.size,fun x hx=>hg2.block x (by rcases hx with rfl|rfl<;>simp<;>omega) (fun e=>by
  have e2:q.a.map (·.block)=some x:=rowB_imp e.symm
  rcases hx with rfl|rfl
  ·obtain ⟨ad,ha,hb⟩:=Option.map_eq_some_iff.1 e2
   obtain ⟨_,_,cur,hcur⟩:=hq.row.block_lt ha
   exact Blk.ne hcur hq.blk (by decide) hb
  ·exact hf (.inr e2))⟩
 have hb2:Blk w2 q.c (wcells q) 184:=(hk2.2 _ (.inl rfl)).trans (hq.blk.drew.alloc _)
 refine hK _ _ hk2 ?_
 clear hK K r1 r2
 have c2':=hb2.rule
 have f2:=hb2.free
 unfold wcells at c2'
 repeat (first|(refine tree_skip rfl (by rfl) ?_;simp only [Act.put,List.setIfInBounds_toArray,List.set])|(refine tree_quiet (v:= ?_) rfl rfl (by rfl) ?_ ?_;rotate_left;(intro W hW;go_simp);(try with_reducible rfl);simp only [Act.put,List.setIfInBounds_toArray,List.set]))
 refine tree_store rfl rfl (by rfl) (fun K hK=> ?_)
 go_wp2_with fail
 refine tree_done ?_
 go_wp2_with fail
 refine bodyPost_ret (v:= .tuple #[]) (results_none rfl _ _ _) rfl ⟨rfl,⟨q.c,a2,c2,q.bs++ [y]⟩,Lib.hid rfl,⟨?_,⟨hq.ge,?_,?_⟩,?_,rfl⟩⟩
 ·exact (((((Turn.refl (wfoot q) w).drew).alloc _).trans (Turn.of_grown (F:=wfoot q) hg2 fun k hk=> .inr (rowB_imp hk)) fun _ h=> .inl h)).setCell (.inl (.inl rfl)) _
 ·have:=hb2.set 0 (.slice a2 (q.bs.length+1) c2)
  unfold wcells at this⊢
  simpa using this
 ·have:=hown2.setCell_apart hb2 (by decide) 0 (.slice a2 (q.bs.length+1) c2)
  simpa [bv] using this
 ·rintro x (hx|hx)
  ·exact .inl (.inl hx)
  ·rw [←rowB_pos (c:=c2) (by have:=hown2.le;omega)] at hx
   rcases hfr2 with h1|⟨b,h1,h2⟩
   ·rw [h1] at hx
    exact .inl (.inr (rowB_imp hx))
   ·rw [h1] at hx
    cases hx
    refine .inr ?_
    simp at h2
    omega
def NumW (w:World) (B:Nat) (q:WC) (v:Int) (f:Nat) (v4 v5:Value) (wr:World):Prop:=
 ∃(k:Nat) (z:Int) (q':WC),k+f=8∧v5= .int .i64 (56-8*(k:Int))∧v4= .int .u64 z∧Hid (q'.bs=q.bs++(be8 v).take k)∧WStep B w q wr q'
set_option maxHeartbeats 2000000 in
theorem num_w (w:World) (B:Nat) (q:WC) (xb xo:Nat) (v:Int) (hq:WAt w B q) (hB:B≤w.heap.size) (hx:w.cell? ⟨xb,xo,none⟩=some (.int .i64 v)) (hf:¬wfoot q xb) (hz:q.bs.length+8<1000000000000):
  Calls Tryz.prog 148 #[.pointer (some ⟨q.c,0,none⟩),.pointer (some ⟨xb,xo,none⟩)] w fun e w'=>e= .returned (.tuple #[])∧∃q',Hid (q'.bs=q.bs++be8 v)∧WStep B w q w' q':=by
 have hxl:=World.block_lt_of_cell? w _ hx
 go_enter Tryz.func148,Tryz.ntmps148
 go_wp2_with fail
 go_loopg [4,5] 8 (NumW w B q v)
 case atStart=>exact ⟨0,0,q,rfl,rfl,rfl,Lib.hid (by simp),WStep.refl hq⟩
 case round=>
  obtain ⟨k,z,q',hk,rfl,rfl,hbs,hs⟩:=hrel
  have hxr:wr.cell? ⟨xb,xo,none⟩=some (.int .i64 v):=(World.cell?_of_block (a:=⟨xb,xo,none⟩) (hs.turn.block xb hxl hf)).trans hx
  by_cases hlt:k<8
  ·have t0:decide ((0:Int)≤56-8*(k:Int))=true:=by simp;omega
   have v3:(0:Int)≤56-8*(k:Int):=by omega
   have v4:(56-8*(k:Int)).toNat=56-8*k:=by omega
   have v5:IntKind.i64.wrap (56-8*(k:Int)-8)=56-8*((k+1:Nat):Int):=by rw [IntKind.wrap_i64];omega
   go_upto_region 5 with fail
   obtain ⟨y,hyd⟩:∃y:UInt8,y=⟨((BitVec.ofInt 64 v)>>>(56-8*k)).setWidth 8⟩:=⟨_,rfl⟩
   have vb:IntKind.u64.wrap v/2^(56-8*k)%256=U8 y:=by rw [hyd];exact be8_byte v _
   rw [vb]
   have HY:=Lib.hid hyd
   clear hyd vb v4
   have hb1:Below wr.heap.size wr (wr.alloc (.cells #[.int .u8 (U8 y)] 5)):=(Below.refl _ _).alloc (Nat.le_refl _) _
   have hy1:Blk (wr.alloc (.cells #[.int .u8 (U8 y)] 5)) wr.heap.size #[bv y] 5:=Blk.new wr #[bv y] 5
   have hyf:¬wfoot q' wr.heap.size:=fun h=>by have:=(hs.at'.lt h).2;omega
   have hl:q'.bs.length<1000000000000:=by rw [hbs.out,List.length_append,List.length_take,be8_length];omega
   have cb:=byte_w _ B q' wr.heap.size y (hs.at'.old hb1) (by have:=hs.turn.size;simp;omega) hy1 hyf hl
   rw [hs.c] at cb
   go_wp2_with fail
   refine cb.mono ?_
   clear cb
   rintro e w2 ⟨rfl,q2,hbs2,hs2⟩
   have cy:=(hs2.blk hy1 hyf).1.rule
   unfold bv at cy
   have hs3:=hs.trans (hs2.pre hb1)
   have hbs3:q2.bs=q.bs++(be8 v).take (k+1):=by rw [hbs2.out,hbs.out,be8_take v k hlt,List.append_assoc,←HY.out]
   have HB3:=Lib.hid hbs3
   clear hbs3
   go_wp2_with fail
   go_roundg (gk-1)
   case measure=>omega
   case rel=>exact ⟨k+1,_,q2,by omega,by go_num,rfl,HB3,hs3⟩
  ·have hk8:k=8:=by omega
   subst hk8
   have cc:=hs.at'.blk.rule
   unfold wcells at cc
   rw [hs.c] at cc
   have hbs8:q'.bs=q.bs++be8 v:=by rw [hbs.out,List.take_of_length_le (by rw [be8_length];omega)]
   have HB8:=Lib.hid hbs8
   clear hbs8
   go_wp2_with fail
   refine bodyPost_end (v:= .tuple #[]) (results_none rfl _ _ _) rfl ⟨rfl,q',HB8,hs⟩
theorem setCell_self {w:World} {b o:Nat} {v:Value} (h:w.cell? ⟨b,o,none⟩=some v):w.setCell ⟨b,o,none⟩ v=w:=by
 unfold World.cell? at h
 have e:(w.setCell ⟨b,o,none⟩ v).heap=w.heap:=by
  apply Array.ext_getElem?
  intro i
  by_cases hi:i=b
  ·subst hi
   simp only [World.setCell,Array.getElem?_modify,if_true]
   cases hh:w.heap[i]? with
   |none=>rfl
   |some ob=>
    rw [hh] at h
    cases ob with
    |cells c t fr=>
     simp only [Option.map_some,Option.isSome_none,Bool.false_eq_true,if_false] at h⊢
     have:c.setIfInBounds o v=c:=by
      apply Array.ext_getElem?
      intro j
      rw [Array.getElem?_setIfInBounds]
      split
      ·rename_i e
       subst e
       split
       ·exact h.symm
       ·rename_i hj
        rw [Array.getElem?_eq_none (by omega)]
      ·rfl
     rw [this]
    |_=>simp at h
  ·exact heap_setCell_other _ _ _ _ hi
 have:w.setCell ⟨b,o,none⟩ v={w with heap:=(w.setCell ⟨b,o,none⟩ v).heap}:=rfl
 rw [this,e]
theorem frozen_of_block {w w':World} {b o:Nat} (h:w'.heap[b]? =w.heap[b]?):w'.frozen? ⟨b,o,none⟩=w.frozen? ⟨b,o,none⟩:=by
 unfold World.frozen?
 rw [h]
abbrev Pt:=Nat×Nat×Int
def ptV (x:Pt):Value:= .pointer (some ⟨x.1,x.2.1,none⟩)
def NumsW (w:World) (B:Nat) (q:WC) (xs:List Pt) (f:Nat) (v8:Value) (wr:World):Prop:=
 ∃(k:Nat) (q':WC),k+f=xs.length∧v8= .int .i64 (k:Int)∧Hid (q'.bs=q.bs++(xs.take k).flatMap fun x=>be8 x.2.2)∧WStep B w q wr q'
theorem nums_len (xs:List Pt):(xs.flatMap fun x=>be8 x.2.2).length=8*xs.length:=by
 induction xs with
 |nil=>rfl
 |cons x l ih=>rw [List.flatMap_cons,List.length_append,ih,be8_length,List.length_cons];omega
set_option maxHeartbeats 2000000 in
theorem nums_w (w:World) (B:Nat) (q:WC) (g n:Nat) (xs:List Pt) (hq:WAt w B q) (hB:B≤w.heap.size) (hg:Blk w g (xs.map ptV).toArray 209) (hgf:¬wfoot q g) (hn:xs.length=n) (hx:∀x∈xs,w.cell? ⟨x.1,x.2.1,none⟩=some (.int .i64 x.2.2)∧¬wfoot q x.1) (hz:q.bs.length+8*n+8<1000000000000):
  Calls Tryz.prog 146 #[.pointer (some ⟨q.c,0,none⟩),.slice (some ⟨g,0,none⟩) n n] w fun e w'=>e= .returned (.tuple #[])∧∃q',Hid (q'.bs=q.bs++xs.flatMap fun x=>be8 x.2.2)∧WStep B w q w' q':=by
 have HN:=Lib.hid hn
 clear hn
 go_enter Tryz.func146,Tryz.ntmps146
 go_wp2_with fail
 go_loopg [8] n (NumsW w B q xs)
 case atStart=>exact ⟨0,q,by rw [HN.out];omega,rfl,Lib.hid (by simp),WStep.refl hq⟩
 case round=>
  obtain ⟨k,q',hk,rfl,hbs,hs⟩:=hrel
  rw [HN.out] at hk
  by_cases hlt:k<n
  ·have t0:decide ((k:Int)<(n:Int))=true:=by simp;omega
   have hkl:k<xs.length:=by rw [HN.out];exact hlt
   obtain ⟨hc,hf⟩:=hx xs[k] (List.getElem_mem hkl)
   have cg:wr.cell? ⟨g,k,none⟩=some (ptV xs[k]):=by
    rw [(hs.blk hg hgf).1.rule]
    simp [hkl]
   have HT:=Lib.hid (List.take_succ_eq_append_getElem hkl)
   generalize xs[k]=x at*
   obtain ⟨xb,xo,v⟩:=x
   unfold ptV at cg
   dsimp only at hc hf cg HT
   have hcr:wr.cell? ⟨xb,xo,none⟩=some (.int .i64 v):=(World.cell?_of_block (a:=⟨xb,xo,none⟩) (hs.turn.block xb (World.block_lt_of_cell? w _ hc) hf)).trans hc
   have hfr:¬wfoot q' xb:=fun h=>by
    rcases hs.foot' xb h with h1|h1
    ·exact hf h1
    ·have:=World.block_lt_of_cell? w _ hc
     simp at this
     omega
   have hl:q'.bs.length+8<1000000000000:=by
    rw [hbs.out,List.length_append,nums_len,List.length_take]
    have:min k xs.length≤n:=by omega
    omega
   have cb:=num_w wr B q' xb xo v hs.at' (Nat.le_trans hB hs.turn.size) hcr hfr hl
   rw [hs.c] at cb
   clear hx hc hf hcr
   go_wp2_with fail
   refine cb.mono ?_
   clear cb
   rintro e w2 ⟨rfl,q2,hbs2,hs2⟩
   have HB3:=Lib.hid (show q2.bs=q.bs++(xs.take (k+1)).flatMap fun x=>be8 x.2.2 by rw [hbs2.out,hbs.out,HT.out,List.flatMap_append,List.append_assoc];simp)
   have hs3:=hs.trans hs2
   go_wp2_with fail
   go_roundg (gk-1)
   case measure=>omega
   case rel=>exact ⟨k+1,q2,by rw [HN.out];omega,by go_num,HB3,hs3⟩
  ·have t0:decide ((k:Int)<(n:Int))=false:=by simp;omega
   have HB3:=Lib.hid (show q'.bs=q.bs++xs.flatMap fun x=>be8 x.2.2 by rw [hbs.out,List.take_of_length_le (by rw [HN.out];omega)])
   go_wp2_with fail
   refine bodyPost_end (v:= .tuple #[]) (results_none rfl _ _ _) rfl ⟨rfl,q',HB3,hs⟩
set_option maxHeartbeats 2000000 in
theorem small_w (w:World) (B:Nat) (q:WC) (xb xo:Nat) (v:Int) (hq:WAt w B q) (hB:B≤w.heap.size) (hx:w.cell? ⟨xb,xo,none⟩=some (.int .i8 v)) (hfz:w.frozen? ⟨xb,xo,none⟩=false) (hv:wf8 v) (hf:¬wfoot q xb) (hz:q.bs.length+8<1000000000000):
  Calls Tryz.prog 145 #[.pointer (some ⟨q.c,0,none⟩),.pointer (some ⟨xb,xo,none⟩)] w fun e w'=>e= .returned (.tuple #[])∧∃q',Hid (q'.bs=q.bs++be8 v)∧WStep B w q w' q':=by
 have hxl:=World.block_lt_of_cell? w _ hx
 have hc:=hq.blk.rule
 unfold wcells at hc
 have hv1: -128≤v∧v≤127:=by
  simp only [wf8,Lit.wf,IntKind.min,IntKind.max,IntKind.signed,IntKind.bits] at hv
  simp at hv
  omega
 have d1:decide (v< -128)=false:=by simp;omega
 have d2:decide (127<v)=false:=by simp;omega
 have e1:IntKind.i64.wrap v=v:=by rw [IntKind.wrap_i64];omega
 have e2:IntKind.i8.wrap v=v:=by simp only [IntKind.wrap,IntKind.bits,IntKind.signed];simp;omega
 go_enter Tryz.func145,Tryz.ntmps145
 go_wp2_with fail
 have r1:∀W,Old w.drew W→W.cell? ⟨q.c,1,none⟩=some (.int .i64 0):=fun W hW=>by rw [hW.cell (p:=⟨q.c,1,none⟩) hq.blk.lt];exact hc 1
 have r2:∀W,Old w.drew W→W.cell? ⟨xb,xo,none⟩=some (.int .i8 v):=fun W hW=>by rw [hW.cell (p:=⟨xb,xo,none⟩) hxl];exact hx
 refine wp_region_treeR true Old Old.refl Old.trans (.step 0 (.step 1 (.step 2 (.step 3 (.step 4 (.step 5 (.step 6 (.step 7 (.step 8 (.step 9 (.step 10 .done))))))))))) (by kernel_rfl) (by kernel_rfl) (fun c a d v w h=>by cases d<;>exact h) ?_
 repeat (first|(refine tree_skip rfl (by rfl) ?_;simp only [Act.put,List.setIfInBounds_toArray,List.set])|(refine tree_quiet (v:= ?_) rfl rfl (by rfl) ?_ ?_;rotate_left;(intro W hW;go_simp);(try with_reducible rfl);simp only [Act.put,List.setIfInBounds_toArray,List.set]))
 refine tree_loud rfl rfl (by rfl) (fun K hK=> ?_);go_wp2_with fail
 refine hK _ _ ((Below.refl _ _).alloc (Nat.le_refl _) _) ?_
 clear hK K r1 r2
 repeat (first|(refine tree_skip rfl (by rfl) ?_;simp only [Act.put,List.setIfInBounds_toArray,List.set])|(refine tree_quiet (v:= ?_) rfl rfl (by rfl) ?_ ?_;rotate_left;(intro W hW;go_simp);(try with_reducible rfl);simp only [Act.put,List.setIfInBounds_toArray,List.set]))
 refine tree_store rfl rfl (by rfl) (fun K hK=> ?_);go_wp2_with fail;refine tree_done ?_
 go_upto_region 1 with (fail)
 refine wp_forget (fun W=>Blk W w.heap.size #[.int .i64 v] 3∧Below w.heap.size w W) ⟨(Blk.new w #[.int .i64 v] 3).drew,by (try unfold Kept);repeat (first|assumption|exact Below.refl _ _|exact below_undrew (Below.refl _ _)|exact Below.mono (by assumption) (by first|(simp;done)|(simp;omega)|omega)|refine below_setRow ?_ (by first|(simp;done)|(simp;omega)|omega) _|refine Below.setCell ?_ (by first|(simp;done)|(simp;omega)|omega) _|refine Below.alloc ?_ (by first|(simp;done)|(simp;omega)|omega) _|refine below_drewN ?_ _|refine Below.drew ?_|refine below_undrew ?_|refine below_step ?_ (by assumption))⟩ ?_
 rintro W1 ⟨hn1,hb1⟩
 have hnf:¬wfoot q w.heap.size:=fun h=>by have:=(hq.lt h).2;omega
 have hnl:=hn1.lt
 have cb:=num_w W1 B q w.heap.size 0 v (hq.old hb1) (Nat.le_trans hB hb1.size) (hn1.rule 0) hnf hz
 have hx1:W1.cell? ⟨xb,xo,none⟩=some (.int .i8 v):=by rw [hb1.cell (p:=⟨xb,xo,none⟩) hxl];exact hx
 have hfz1:W1.frozen? ⟨xb,xo,none⟩=false:=(frozen_of_block (hb1.block xb hxl)).trans hfz
 have hw1:=hq.old hb1
 clear hc
 go_wp2_with fail
 refine cb.mono ?_
 clear cb
 rintro e w2 ⟨rfl,q2,hbs2,hs2⟩
 have cn:=(hs2.blk hn1 hnf).1.rule
 have hx2:w2.cell? ⟨xb,xo,none⟩=some (.int .i8 v):=(World.cell?_of_block (a:=⟨xb,xo,none⟩) (hs2.turn.block xb (by have:=hb1.size;omega) hf)).trans hx1
 have hfz2:w2.frozen? ⟨xb,xo,none⟩=false:=(frozen_of_block (hs2.turn.block xb (by have:=hb1.size;omega) hf)).trans hfz1
 have hself:=setCell_self hx2
 go_wp2_with fail
 refine bodyPost_end (v:= .tuple #[]) (results_none rfl _ _ _) rfl ⟨rfl,q2,hbs2,hs2.pre hb1⟩
theorem WStep.cell {w w':World} {B:Nat} {q q':WC} (h:WStep B w q w' q') {b o:Nat} {v:Value} (hc:w.cell? ⟨b,o,none⟩=some v) (hf:¬wfoot q b):w'.cell? ⟨b,o,none⟩=some v:=
 (World.cell?_of_block (a:=⟨b,o,none⟩) (h.turn.block b (World.block_lt_of_cell? w _ hc) hf)).trans hc
theorem WStep.off {w w':World} {B:Nat} {q q':WC} (h:WStep B w q w' q') {b:Nat} (hb:b<w.heap.size) (hf:¬wfoot q b):¬wfoot q' b:=fun hx=>by
 rcases h.foot' b hx with h1|h1
 ·exact hf h1
 ·omega
theorem WAt.fresh {w:World} {B:Nat} {q:WC} (h:WAt w B q):¬wfoot q w.heap.size:=fun hx=>by have:=(h.lt hx).2;omega
theorem enc_len {α:Type} {g:α→List UInt8} {n:Nat} (h:∀x,(g x).length=n):∀l:List α,(l.flatMap g).length=n*l.length
 | []=>rfl
 |x::l=>by rw [List.flatMap_cons,List.length_append,h,enc_len h l,List.length_cons,Nat.mul_add,Nat.mul_one,Nat.add_comm]
theorem ints_flat (l:List Int):l.flatMap bi=l.map (Value.int .i64):=by
 induction l with
 |nil=>rfl
 |cons x l ih=>rw [List.flatMap_cons,ih];rfl
def CellsAt (w:World) (b o:Nat) (l:List Value):Prop:=∀j (hj:j<l.length),w.cell? ⟨b,o+j,none⟩=some l[j]
theorem WStep.cells {w w':World} {B:Nat} {q q':WC} (h:WStep B w q w' q') {b o:Nat} {l:List Value} (hc:CellsAt w b o l) (hf:¬wfoot q b):CellsAt w' b o l:=fun j hj=>h.cell (hc j hj) hf
set_option maxHeartbeats 2000000 in
theorem pair_w (w:World) (B:Nat) (q:WC) (b o:Nat) (u:PairL) (hq:WAt w B q) (hB:B≤w.heap.size) (hx:CellsAt w b o u.cells) (hf:¬wfoot q b) (hz:q.bs.length+100<1000000000000):
  Calls Tryz.prog 150 #[.pointer (some ⟨q.c,0,none⟩),.pointer (some ⟨b,o,none⟩)] w fun e w'=>e= .returned (.tuple #[])∧∃q',Hid (q'.bs=q.bs++pairB u)∧WStep B w q w' q':=by
 obtain ⟨i,c⟩:=u
 have x0:w.cell? ⟨b,o,none⟩=some (.int .i64 i):=hx 0 (by show 0<2;omega)
 have x1:w.cell? ⟨b,o+1,none⟩=some (.int .i64 c):=hx 1 (by show 1<2;omega)
 have hbl:=World.block_lt_of_cell? w _ x0
 clear hx
 go_enter Tryz.func150,Tryz.ntmps150
 go_wp2_with fail
 refine wp_region_treeR false (KeepAt (fun _=>False)) (KeepAt.refl _) (fun _ _ _ h1 h2=>KeepAt.trans h1 h2) (.step 0 (.step 1 (.step 2 (.step 3 (.step 4 (.step 5 (.step 6 (.step 7 (.step 8 .done))))))))) (by kernel_rfl) (by kernel_rfl) (fun c a d v w h=>by cases d<;>exact h) ?_
 repeat (first|(refine tree_skip rfl (by rfl) ?_;simp only [Act.put,List.setIfInBounds_toArray,List.set])|(refine tree_quiet (v:= ?_) rfl rfl (by rfl) ?_ ?_;rotate_left;(intro W hW;go_simp);(try with_reducible rfl);simp only [Act.put,List.setIfInBounds_toArray,List.set]))
 refine tree_loud rfl rfl (by rfl) (fun K hK=> ?_);go_wp2_with fail
 refine hK _ _ ⟨by simp,fun _ h=>h.elim⟩ ?_
 clear hK K
 repeat (first|(refine tree_skip rfl (by rfl) ?_;simp only [Act.put,List.setIfInBounds_toArray,List.set])|(refine tree_quiet (v:= ?_) rfl rfl (by rfl) ?_ ?_;rotate_left;(intro W hW;go_simp);(try with_reducible rfl);simp only [Act.put,List.setIfInBounds_toArray,List.set]))
 refine tree_loud rfl rfl (by rfl) (fun K hK=> ?_);go_wp2_with fail
 have hb1:Below w.heap.size w (w.alloc (.cells #[.pointer (some ⟨b,o,none⟩),.pointer (some ⟨b,o+1,none⟩)] 209)).drew:=by (try unfold Kept);repeat (first|assumption|exact Below.refl _ _|exact below_undrew (Below.refl _ _)|exact Below.mono (by assumption) (by first|(simp;done)|(simp;omega)|omega)|refine below_setRow ?_ (by first|(simp;done)|(simp;omega)|omega) _|refine Below.setCell ?_ (by first|(simp;done)|(simp;omega)|omega) _|refine Below.alloc ?_ (by first|(simp;done)|(simp;omega)|omega) _|refine below_drewN ?_ _|refine Below.drew ?_|refine below_undrew ?_|refine below_step ?_ (by assumption))
 have cb:=nums_w _ B q w.heap.size 2 [(b,o,i),(b,o+1,c)] (hq.old hb1) (Nat.le_trans hB hb1.size) (Blk.new w #[.pointer (some ⟨b,o,none⟩),.pointer (some ⟨b,o+1,none⟩)] 209).drew hq.fresh rfl (fun x hx=>by
  simp only [List.mem_cons,List.mem_nil_iff,or_false] at hx
  rcases hx with rfl|rfl
  ·exact ⟨by rw [hb1.cell (p:=⟨b,_,none⟩) hbl];exact x0,hf⟩
  ·exact ⟨by rw [hb1.cell (p:=⟨b,_,none⟩) hbl];exact x1,hf⟩) (by omega)
 refine cb.mono ?_
 clear cb
 rintro e w2 ⟨rfl,q2,hbs2,hs2⟩
 have hz2:=hs2.turn.size
 replace hs2:=hs2.pre hb1
 go_wp2_with fail
 refine hK _ _ ⟨by simpa using hz2,fun _ h=>h.elim⟩ ?_
 clear hK K
 refine tree_done ?_
 go_wp2_with fail
 refine bodyPost_end (v:= .tuple #[]) (results_none rfl _ _ _) rfl ⟨rfl,q2,Lib.hid ?_,hs2⟩
 rw [hbs2.out]
 simp [pairB]
def ListintW (w:World) (B:Nat) (q:WC) (l:List Int) (f:Nat) (v50:Value) (wr:World):Prop:=
 ∃(k:Nat) (q':WC),k+f=l.length∧v50= .int .i64 (k:Int)∧Hid (q'.bs=q.bs++be8 l.length++(l.take k).flatMap be8)∧WStep B w q wr q'
set_option maxHeartbeats 4000000 in
theorem list_int_w (w:World) (B:Nat) (q:WC) (xb xo:Nat) (s:Sl) (l:List Int) (hq:WAt w B q) (hB:B≤w.heap.size) (hx:w.cell? ⟨xb,xo,none⟩=some (.slice s.a s.n s.c)) (hl:Ints w s l) (hfx:¬wfoot q xb) (hfl:l≠ []→∀ad,s.a=some ad→¬wfoot q ad.block) (hz:q.bs.length+8*s.n+200<1000000000000):
  Calls Tryz.prog 147 #[.pointer (some ⟨q.c,0,none⟩),.pointer (some ⟨xb,xo,none⟩),.int .i64 8,.func (.func 148) #[.pointer (some ⟨q.c,0,none⟩)] #[]] w fun e w'=>e= .returned (.tuple #[])∧∃q',Hid (q'.bs=q.bs++(be8 l.length++l.flatMap be8))∧WStep B w q w' q':=by
 have hxl:=World.block_lt_of_cell? w _ hx
 have hc:=hq.blk.rule
 unfold wcells at hc
 have HL:=Lib.hid hl.2.1
 have hnm:=hl.2.2.2.2.1
 obtain ⟨sa,sn,sc⟩:=s
 dsimp only at*
 go_enter Tryz.func147,Tryz.ntmps147
 go_wp2_with fail
 have r1:∀W,Old w.drew W→W.cell? ⟨q.c,1,none⟩=some (.int .i64 0):=fun W hW=>by rw [hW.cell (p:=⟨q.c,1,none⟩) hq.blk.lt];exact hc 1
 have r2:∀W,Old w.drew W→W.cell? ⟨xb,xo,none⟩=some (.slice sa sn sc):=fun W hW=>by rw [hW.cell (p:=⟨xb,xo,none⟩) hxl];exact hx
 refine wp_region_treeR true Old Old.refl Old.trans (.step 0 (.step 1 (.step 2 (.step 3 (.step 4 (.step 5 (.step 6 (.step 7 (.step 8 (.step 9 (.step 10 .done))))))))))) (by kernel_rfl) (by kernel_rfl) (fun c a d v w h=>by cases d<;>exact h) ?_
 repeat (first|(refine tree_skip rfl (by rfl) ?_;simp only [Act.put,List.setIfInBounds_toArray,List.set])|(refine tree_quiet (v:= ?_) rfl rfl (by rfl) ?_ ?_;rotate_left;(intro W hW;go_simp);(try with_reducible rfl);simp only [Act.put,List.setIfInBounds_toArray,List.set]))
 refine tree_loud rfl rfl (by rfl) (fun K hK=> ?_);go_wp2_with fail
 refine hK _ _ ((Below.refl _ _).alloc (Nat.le_refl _) _) ?_
 clear hK K r1 r2
 repeat (first|(refine tree_skip rfl (by rfl) ?_;simp only [Act.put,List.setIfInBounds_toArray,List.set])|(refine tree_quiet (v:= ?_) rfl rfl (by rfl) ?_ ?_;rotate_left;(intro W hW;go_simp);(try with_reducible rfl);simp only [Act.put,List.setIfInBounds_toArray,List.set]))
 refine tree_store rfl rfl (by rfl) (fun K hK=> ?_);go_wp2_with fail;refine tree_done ?_
 go_upto_region 1 with (fail)
 obtain ⟨Y,hY⟩:∃Y,Y=w.heap.size:=⟨_,rfl⟩
 rw [←hY]
 refine wp_forget (fun W=>Blk W Y #[.int .i64 (sn:Int)] 3∧Below w.heap.size w W) ⟨by rw [hY];exact (Blk.new w #[.int .i64 (sn:Int)] 3).drew,by (try unfold Kept);repeat (first|assumption|exact Below.refl _ _|exact below_undrew (Below.refl _ _)|exact Below.mono (by assumption) (by first|(simp;done)|(simp;omega)|omega)|refine below_setRow ?_ (by first|(simp;done)|(simp;omega)|omega) _|refine Below.setCell ?_ (by first|(simp;done)|(simp;omega)|omega) _|refine Below.alloc ?_ (by first|(simp;done)|(simp;omega)|omega) _|refine below_drewN ?_ _|refine Below.drew ?_|refine below_undrew ?_|refine below_step ?_ (by assumption))⟩ ?_
 rintro W1 ⟨hn1,hb1⟩
 have hnf:¬wfoot q Y:=by rw [hY];exact hq.fresh
 have HYW:=Lib.hid hY
 clear hY
 have cb:=num_w W1 B q Y 0 sn (hq.old hb1) (Nat.le_trans hB hb1.size) (hn1.rule 0) hnf (by omega)
 clear hc
 go_wp2_with fail
 refine cb.mono ?_
 clear cb
 rintro e w2 ⟨rfl,q2,hbs2,hs2⟩
 have hs02:=hs2.pre hb1
 have hn2:=(hs2.blk hn1 hnf).1
 have cn:=hn2.rule
 have cq:=hs2.at'.blk.rule
 unfold wcells at cq
 rw [hs2.c] at cq
 have hst:ListintW w B q l sn (.int .i64 0) w2:=⟨0,q2,by rw [HL.out];omega,rfl,Lib.hid (by rw [hbs2.out,HL.out];simp),hs02⟩
 go_wp2_with fail
 go_loopg [50] sn (ListintW w B q l)
 case atStart=>exact hst
 case round=>
  clear hst cn cq hn2 hn1
  obtain ⟨k,q',hk,rfl,hbs,hs⟩:=hrel
  rw [HL.out] at hk
  by_cases hlt:k<sn
  ·have t0:decide ((k:Int)<(sn:Int))=true:=by simp;omega
   have hkl:k<l.length:=by rw [HL.out];exact hlt
   have hel:=RowAt.elem (g:=bi) (sz:=1) (fun _=>rfl) (by first|exact hl.1|(have:=hl.1;rw [ints_flat];exact this)) (by omega) k hkl
   obtain ⟨b,o,rfl,hbl,hc⟩:=hel
   have hf:=hfl (List.ne_nil_of_length_pos (by omega)) _ rfl
   have HT:=Lib.hid (List.take_succ_eq_append_getElem hkl)
   have HSZ:=Lib.hid (show ∀k,((l.take k).flatMap be8).length≤8*sn from fun k=>by
    rw [enc_len (fun x=>show (be8 x).length=8 by simp [be8_length]),List.length_take,HL.out]
    exact Nat.mul_le_mul_left _ (Nat.min_le_right _ _))
   generalize l[k]=x at hc HT
   have cxr:=hs.cell hx hfx
   have ccr:CellsAt wr b (o+k) (bi x):=hs.cells (by first|exact hc|simpa [CellsAt] using hc) hf
   have cq:=hs.at'.blk.rule
   unfold wcells at cq
   rw [hs.c] at cq
   have hl2:q'.bs.length+108<1000000000000:=by
    have:=HSZ.out k
    rw [hbs.out,List.length_append,List.length_append,be8_length]
    omega
   have cb:=num_w wr B q' b (o+k) x hs.at' (Nat.le_trans hB hs.turn.size) (ccr 0 (by show 0<1;omega)) (hs.off hbl hf) (by omega)
   rw [hs.c] at cb
   clear hc
   go_wp2_with fail
   refine cb.mono ?_
   clear cb
   rintro e w3 ⟨rfl,q3,hbs3,hs3⟩
   have HB3:=Lib.hid (show q3.bs=q.bs++be8 l.length++(l.take (k+1)).flatMap be8 by rw [hbs3.out,hbs.out,HT.out,List.flatMap_append];simp)
   have hs03:=hs.trans hs3
   go_wp2_with fail
   go_roundg (gk-1)
   case measure=>omega
   case rel=>exact ⟨k+1,q3,by rw [HL.out];omega,by go_num,HB3,hs03⟩
  ·have t0:decide ((k:Int)<(sn:Int))=false:=by simp;omega
   have HB3:=Lib.hid (show q'.bs=q.bs++(be8 l.length++l.flatMap be8) by rw [hbs.out,List.take_of_length_le (by rw [HL.out];omega),List.append_assoc])
   go_wp2_with fail
   refine bodyPost_end (v:= .tuple #[]) (results_none rfl _ _ _) rfl ⟨rfl,q',HB3,hs⟩
def ListpairW (w:World) (B:Nat) (q:WC) (l:List PairL) (f:Nat) (v50:Value) (wr:World):Prop:=
 ∃(k:Nat) (q':WC),k+f=l.length∧v50= .int .i64 (k:Int)∧Hid (q'.bs=q.bs++be8 l.length++(l.take k).flatMap pairB)∧WStep B w q wr q'
set_option maxHeartbeats 4000000 in
theorem list_pair_w (w:World) (B:Nat) (q:WC) (xb xo:Nat) (s:Sl) (l:List PairL) (hq:WAt w B q) (hB:B≤w.heap.size) (hx:w.cell? ⟨xb,xo,none⟩=some (.slice s.a s.n s.c)) (hl:Pairs w s l) (hfx:¬wfoot q xb) (hfl:l≠ []→∀ad,s.a=some ad→¬wfoot q ad.block) (hz:q.bs.length+16*s.n+200<1000000000000):
  Calls Tryz.prog 149 #[.pointer (some ⟨q.c,0,none⟩),.pointer (some ⟨xb,xo,none⟩),.int .i64 16,.func (.func 150) #[.pointer (some ⟨q.c,0,none⟩)] #[]] w fun e w'=>e= .returned (.tuple #[])∧∃q',Hid (q'.bs=q.bs++(be8 l.length++l.flatMap pairB))∧WStep B w q w' q':=by
 have hxl:=World.block_lt_of_cell? w _ hx
 have hc:=hq.blk.rule
 unfold wcells at hc
 have HL:=Lib.hid hl.2.1
 have hnm:=hl.2.2.2.2.1
 obtain ⟨sa,sn,sc⟩:=s
 dsimp only at*
 go_enter Tryz.func149,Tryz.ntmps149
 go_wp2_with fail
 have r1:∀W,Old w.drew W→W.cell? ⟨q.c,1,none⟩=some (.int .i64 0):=fun W hW=>by rw [hW.cell (p:=⟨q.c,1,none⟩) hq.blk.lt];exact hc 1
 have r2:∀W,Old w.drew W→W.cell? ⟨xb,xo,none⟩=some (.slice sa sn sc):=fun W hW=>by rw [hW.cell (p:=⟨xb,xo,none⟩) hxl];exact hx
 refine wp_region_treeR true Old Old.refl Old.trans (.step 0 (.step 1 (.step 2 (.step 3 (.step 4 (.step 5 (.step 6 (.step 7 (.step 8 (.step 9 (.step 10 .done))))))))))) (by kernel_rfl) (by kernel_rfl) (fun c a d v w h=>by cases d<;>exact h) ?_
 repeat (first|(refine tree_skip rfl (by rfl) ?_;simp only [Act.put,List.setIfInBounds_toArray,List.set])|(refine tree_quiet (v:= ?_) rfl rfl (by rfl) ?_ ?_;rotate_left;(intro W hW;go_simp);(try with_reducible rfl);simp only [Act.put,List.setIfInBounds_toArray,List.set]))
 refine tree_loud rfl rfl (by rfl) (fun K hK=> ?_);go_wp2_with fail
 refine hK _ _ ((Below.refl _ _).alloc (Nat.le_refl _) _) ?_
 clear hK K r1 r2
 repeat (first|(refine tree_skip rfl (by rfl) ?_;simp only [Act.put,List.setIfInBounds_toArray,List.set])|(refine tree_quiet (v:= ?_) rfl rfl (by rfl) ?_ ?_;rotate_left;(intro W hW;go_simp);(try with_reducible rfl);simp only [Act.put,List.setIfInBounds_toArray,List.set]))
 refine tree_store rfl rfl (by rfl) (fun K hK=> ?_);go_wp2_with fail;refine tree_done ?_
 go_upto_region 1 with (fail)
 obtain ⟨Y,hY⟩:∃Y,Y=w.heap.size:=⟨_,rfl⟩
 rw [←hY]
 refine wp_forget (fun W=>Blk W Y #[.int .i64 (sn:Int)] 3∧Below w.heap.size w W) ⟨by rw [hY];exact (Blk.new w #[.int .i64 (sn:Int)] 3).drew,by (try unfold Kept);repeat (first|assumption|exact Below.refl _ _|exact below_undrew (Below.refl _ _)|exact Below.mono (by assumption) (by first|(simp;done)|(simp;omega)|omega)|refine below_setRow ?_ (by first|(simp;done)|(simp;omega)|omega) _|refine Below.setCell ?_ (by first|(simp;done)|(simp;omega)|omega) _|refine Below.alloc ?_ (by first|(simp;done)|(simp;omega)|omega) _|refine below_drewN ?_ _|refine Below.drew ?_|refine below_undrew ?_|refine below_step ?_ (by assumption))⟩ ?_
 rintro W1 ⟨hn1,hb1⟩
 have hnf:¬wfoot q Y:=by rw [hY];exact hq.fresh
 have HYW:=Lib.hid hY
 clear hY
 have cb:=num_w W1 B q Y 0 sn (hq.old hb1) (Nat.le_trans hB hb1.size) (hn1.rule 0) hnf (by omega)
 clear hc
 go_wp2_with fail
 refine cb.mono ?_
 clear cb
 rintro e w2 ⟨rfl,q2,hbs2,hs2⟩
 have hs02:=hs2.pre hb1
 have hn2:=(hs2.blk hn1 hnf).1
 have cn:=hn2.rule
 have cq:=hs2.at'.blk.rule
 unfold wcells at cq
 rw [hs2.c] at cq
 have hst:ListpairW w B q l sn (.int .i64 0) w2:=⟨0,q2,by rw [HL.out];omega,rfl,Lib.hid (by rw [hbs2.out,HL.out];simp),hs02⟩
 go_wp2_with fail
 go_loopg [50] sn (ListpairW w B q l)
 case atStart=>exact hst
 case round=>
  clear hst cn cq hn2 hn1
  obtain ⟨k,q',hk,rfl,hbs,hs⟩:=hrel
  rw [HL.out] at hk
  by_cases hlt:k<sn
  ·have t0:decide ((k:Int)<(sn:Int))=true:=by simp;omega
   have hkl:k<l.length:=by rw [HL.out];exact hlt
   have hel:=RowAt.elem (g:=PairL.cells) (sz:=2) (fun _=>rfl) (by first|exact hl.1|(have:=hl.1;rw [ints_flat];exact this)) (by omega) k hkl
   obtain ⟨b,o,rfl,hbl,hc⟩:=hel
   have hf:=hfl (List.ne_nil_of_length_pos (by omega)) _ rfl
   have HT:=Lib.hid (List.take_succ_eq_append_getElem hkl)
   have HSZ:=Lib.hid (show ∀k,((l.take k).flatMap pairB).length≤16*sn from fun k=>by
    rw [enc_len (fun x=>show (pairB x).length=16 by simp [pairB,be8_length]),List.length_take,HL.out]
    exact Nat.mul_le_mul_left _ (Nat.min_le_right _ _))
   generalize l[k]=x at hc HT
   have cxr:=hs.cell hx hfx
   have ccr:CellsAt wr b (o+k*2) (PairL.cells x):=hs.cells (by first|exact hc|simpa [CellsAt] using hc) hf
   have cq:=hs.at'.blk.rule
   unfold wcells at cq
   rw [hs.c] at cq
   have hl2:q'.bs.length+108<1000000000000:=by
    have:=HSZ.out k
    rw [hbs.out,List.length_append,List.length_append,be8_length]
    omega
   have cb:=pair_w wr B q' b (o+k*2) x hs.at' (Nat.le_trans hB hs.turn.size) ccr (hs.off hbl hf) (by omega)
   rw [hs.c] at cb
   clear hc
   go_wp2_with fail
   refine cb.mono ?_
   clear cb
   rintro e w3 ⟨rfl,q3,hbs3,hs3⟩
   have HB3:=Lib.hid (show q3.bs=q.bs++be8 l.length++(l.take (k+1)).flatMap pairB by rw [hbs3.out,hbs.out,HT.out,List.flatMap_append];simp)
   have hs03:=hs.trans hs3
   go_wp2_with fail
   go_roundg (gk-1)
   case measure=>omega
   case rel=>exact ⟨k+1,q3,by rw [HL.out];omega,by go_num,HB3,hs03⟩
  ·have t0:decide ((k:Int)<(sn:Int))=false:=by simp;omega
   have HB3:=Lib.hid (show q'.bs=q.bs++(be8 l.length++l.flatMap pairB) by rw [hbs.out,List.take_of_length_le (by rw [HL.out];omega),List.append_assoc])
   go_wp2_with fail
   refine bodyPost_end (v:= .tuple #[]) (results_none rfl _ _ _) rfl ⟨rfl,q',HB3,hs⟩
end
end Go.Proofs.YtioigihakjlopaaGreat
