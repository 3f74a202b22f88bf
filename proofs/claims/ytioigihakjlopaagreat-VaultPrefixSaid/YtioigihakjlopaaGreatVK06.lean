/- Texts put together and cut to what is used: ImWThing, ImWState, Deed. -/
import Derived.Test.YtioigihakjlopaaGreatVK05
namespace Go.Proofs.YtioigihakjlopaaGreat
set_option linter.unusedVariables false
set_option linter.unusedSimpArgs false
section
open Go.RowKit
set_option maxRecDepth 20000
theorem WStep.cell {w w':World} {B:Nat} {q q':WC} (h:WStep B w q w' q') {b o:Nat} {v:Value} (hc:w.cell? ⟨b,o,none⟩=some v) (hf:¬wfoot q b):w'.cell? ⟨b,o,none⟩=some v:=
 (World.cell?_of_block (a:=⟨b,o,none⟩) (h.turn.block b (World.block_lt_of_cell? w _ hc) hf)).trans hc
theorem WStep.off {w w':World} {B:Nat} {q q':WC} (h:WStep B w q w' q') {b:Nat} (hb:b<w.heap.size) (hf:¬wfoot q b):¬wfoot q' b:=fun hx=>by
 rcases h.foot' b hx with h1|h1
 ·exact hf h1
 ·omega
theorem WAt.fresh {w:World} {B:Nat} {q:WC} (h:WAt w B q):¬wfoot q w.heap.size:=fun hx=>by have:=(h.lt hx).2;omega
theorem enc_len {α:Type} {g:α→List UInt8} {n:Nat} (h:∀x,(g x).length=n):∀l:List α,(l.flatMap g).length=n*l.length
 | []=>rfl
 |x::l=>by rw [List.flatMap_cons,List.length_append,h,enc_len h l,List.length_cons,Nat.mul_add,Nat.mul_one,Nat.add_comm]
theorem ints_flat (l:List Int):l.flatMap bi=l.map (Value.int .i64):=by
 induction l with
 |nil=>rfl
 |cons x l ih=>rw [List.flatMap_cons,ih];rfl
def CellsAt (w:World) (b o:Nat) (l:List Value):Prop:=∀j (hj:j<l.length),w.cell? ⟨b,o+j,none⟩=some l[j]
theorem WStep.cells {w w':World} {B:Nat} {q q':WC} (h:WStep B w q w' q') {b o:Nat} {l:List Value} (hc:CellsAt w b o l) (hf:¬wfoot q b):CellsAt w' b o l:=fun j hj=>h.cell (hc j hj) hf
set_option maxHeartbeats 2000000 in
theorem pair_w (w:World) (B:Nat) (q:WC) (b o:Nat) (u:PairL) (hq:WAt w B q) (hB:B≤w.heap.size) (hx:CellsAt w b o u.cells) (hf:¬wfoot q b) (hz:q.bs.length+100<1000000000000):
  Calls Tryz.prog 150 #[.pointer (some ⟨q.c,0,none⟩),.pointer (some ⟨b,o,none⟩)] w fun e w'=>e= .returned (.tuple #[])∧∃q',Hid (q'.bs=q.bs++pairB u)∧WStep B w q w' q':=by
 obtain ⟨i,c⟩:=u
 have x0:w.cell? ⟨b,o,none⟩=some (.int .i64 i):=hx 0 (by show 0<2;omega)
 have x1:w.cell? ⟨b,o+1,none⟩=some (.int .i64 c):=hx 1 (by show 1<2;omega)
 have hbl:=World.block_lt_of_cell? w _ x0
 clear hx
 go_enter Tryz.func150,Tryz.ntmps150
 go_wp2_with fail
 refine wp_region_treeR false (KeepAt (fun _=>False)) (KeepAt.refl _) (fun _ _ _ h1 h2=>KeepAt.trans h1 h2) (.step 0 (.step 1 (.step 2 (.step 3 (.step 4 (.step 5 (.step 6 (.step 7 (.step 8 .done))))))))) (by kernel_rfl) (by kernel_rfl) (fun c a d v w h=>by cases d<;>exact h) ?_
 repeat (first|(refine tree_skip rfl (by rfl) ?_;simp only [Act.put,List.setIfInBounds_toArray,List.set])|(refine tree_quiet (v:= ?_) rfl rfl (by rfl) ?_ ?_;rotate_left;(intro W hW;go_simp);(try with_reducible rfl);simp only [Act.put,List.setIfInBounds_toArray,List.set]))
 refine tree_loud rfl rfl (by rfl) (fun K hK=> ?_);go_wp2_with fail
 refine hK _ _ ⟨by simp,fun _ h=>h.elim⟩ ?_
 clear hK K
 repeat (first|(refine tree_skip rfl (by rfl) ?_;simp only [Act.put,List.setIfInBounds_toArray,List.set])|(refine tree_quiet (v:= ?_) rfl rfl (by rfl) ?_ ?_;rotate_left;(intro W hW;go_simp);(try with_reducible rfl);simp only [Act.put,List.setIfInBounds_toArray,List.set]))
 refine tree_loud rfl rfl (by rfl) (fun K hK=> ?_);go_wp2_with fail
 have hb1:Below w.heap.size w (w.alloc (.cells #[.pointer (some ⟨b,o,none⟩),.pointer (some ⟨b,o+1,none⟩)] 209)).drew:=by (try unfold Kept);repeat (first|assumption|exact Below.refl _ _|exact below_undrew (Below.refl _ _)|exact Below.mono (by assumption) (by first|(simp;done)|(simp;omega)|omega)|refine below_setRow ?_ (by first|(simp;done)|(simp;omega)|omega) _|refine Below.setCell ?_ (by first|(simp;done)|(simp;omega)|omega) _|refine Below.alloc ?_ (by first|(simp;done)|(simp;omega)|omega) _|refine below_drewN ?_ _|refine Below.drew ?_|refine below_undrew ?_|refine below_step ?_ (by assumption))
 have cb:=nums_w _ B q w.heap.size 2 [(b,o,i),(b,o+1,c)] (hq.old hb1) (Nat.le_trans hB hb1.size) (Blk.new w #[.pointer (some ⟨b,o,none⟩),.pointer (some ⟨b,o+1,none⟩)] 209).drew hq.fresh rfl (fun x hx=>by
  simp only [List.mem_cons,List.mem_nil_iff,or_false] at hx
  rcases hx with rfl|rfl
  ·exact ⟨by rw [hb1.cell (p:=⟨b,_,none⟩) hbl];exact x0,hf⟩
  ·exact ⟨by rw [hb1.cell (p:=⟨b,_,none⟩) hbl];exact x1,hf⟩) (by omega)
 refine cb.mono ?_
 clear cb
 rintro e w2 ⟨rfl,q2,hbs2,hs2⟩
 have hz2:=hs2.turn.size
 replace hs2:=hs2.pre hb1
 go_wp2_with fail
 refine hK _ _ ⟨by simpa using hz2,fun _ h=>h.elim⟩ ?_
 clear hK K
 refine tree_done ?_
 go_wp2_with fail
 refine bodyPost_end (v:= .tuple #[]) (results_none rfl _ _ _) rfl ⟨rfl,q2,Lib.hid ?_,hs2⟩
 rw [hbs2.out]
 simp [pairB]
def ListintW (w:World) (B:Nat) (q:WC) (l:List Int) (f:Nat) (v50:Value) (wr:World):Prop:=
 ∃(k:Nat) (q':WC),k+f=l.length∧v50= .int .i64 (k:Int)∧Hid (q'.bs=q.bs++be8 l.length++(l.take k).flatMap be8)∧WStep B w q wr q'
set_option maxHeartbeats 4000000 in
theorem list_int_w (w:World) (B:Nat) (q:WC) (xb xo:Nat) (s:Sl) (l:List Int) (hq:WAt w B q) (hB:B≤w.heap.size) (hx:w.cell? ⟨xb,xo,none⟩=some (.slice s.a s.n s.c)) (hl:Ints w s l) (hfx:¬wfoot q xb) (hfl:l≠ []→∀ad,s.a=some ad→¬wfoot q ad.block) (hz:q.bs.length+8*s.n+200<1000000000000):
  Calls Tryz.prog 147 #[.pointer (some ⟨q.c,0,none⟩),.pointer (some ⟨xb,xo,none⟩),.int .i64 8,.func (.func 148) #[.pointer (some ⟨q.c,0,none⟩)] #[]] w fun e w'=>e= .returned (.tuple #[])∧∃q',Hid (q'.bs=q.bs++(be8 l.length++l.flatMap be8))∧WStep B w q w' q':=by
 have hxl:=World.block_lt_of_cell? w _ hx
 have hc:=hq.blk.rule
 unfold wcells at hc
 have HL:=Lib.hid hl.2.1
 have hnm:=hl.2.2.2.2.1
 obtain ⟨sa,sn,sc⟩:=s
 dsimp only at*
 go_enter Tryz.func147,Tryz.ntmps147
 go_wp2_with fail
 have r1:∀W,Old w.drew W→W.cell? ⟨q.c,1,none⟩=some (.int .i64 0):=fun W hW=>by rw [hW.cell (p:=⟨q.c,1,none⟩) hq.blk.lt];exact hc 1
 have r2:∀W,Old w.drew W→W.cell? ⟨xb,xo,none⟩=some (.slice sa sn sc):=fun W hW=>by rw [hW.cell (p:=⟨xb,xo,none⟩) hxl];exact hx
 refine wp_region_treeR true Old Old.refl Old.trans (.step 0 (.step 1 (.step 2 (.step 3 (.step 4 (.step 5 (.step 6 (.step 7 (.step 8 (.step 9 (.step 10 .done))))))))))) (by kernel_rfl) (by kernel_rfl) (fun c a d v w h=>by cases d<;>exact h) ?_
 repeat (first|(refine tree_skip rfl (by rfl) ?_;simp only [Act.put,List.setIfInBounds_toArray,List.set])|(refine tree_quiet (v:= ?_) rfl rfl (by rfl) ?_ ?_;rotate_left;(intro W hW;go_simp);(try with_reducible rfl);simp only [Act.put,List.setIfInBounds_toArray,List.set]))
 refine tree_loud rfl rfl (by rfl) (fun K hK=> ?_);go_wp2_with fail
 refine hK _ _ ((Below.refl _ _).alloc (Nat.le_refl _) _) ?_
 clear hK K r1 r2
 repeat (first|(refine tree_skip rfl (by rfl) ?_;simp only [Act.put,List.setIfInBounds_toArray,List.set])|(refine tree_quiet (v:= ?_) rfl rfl (by rfl) ?_ ?_;rotate_left;(intro W hW;go_simp);(try with_reducible rfl);simp only [Act.put,List.setIfInBounds_toArray,List.set]))
 refine tree_store rfl rfl (by rfl) (fun K hK=> ?_);go_wp2_with fail;refine tree_done ?_
 go_upto_region 1 with (fail)
 obtain ⟨Y,hY⟩:∃Y,Y=w.heap.size:=⟨_,rfl⟩
 rw [←hY]
 refine wp_forget (fun W=>Blk W Y #[.int .i64 (sn:Int)] 3∧Below w.heap.size w W) ⟨by rw [hY];exact (Blk.new w #[.int .i64 (sn:Int)] 3).drew,by (try unfold Kept);repeat (first|assumption|exact Below.refl _ _|exact below_undrew (Below.refl _ _)|exact Below.mono (by assumption) (by first|(simp;done)|(simp;omega)|omega)|refine below_setRow ?_ (by first|(simp;done)|(simp;omega)|omega) _|refine Below.setCell ?_ (by first|(simp;done)|(simp;omega)|omega) _|refine Below.alloc ?_ (by first|(simp;done)|(simp;omega)|omega) _|refine below_drewN ?_ _|refine Below.drew ?_|refine below_undrew ?_|refine below_step ?_ (by assumption))⟩ ?_
 rintro W1 ⟨hn1,hb1⟩
 have hnf:¬wfoot q Y:=by rw [hY];exact hq.fresh
 have HYW:=Lib.hid hY
 clear hY
 have cb:=num_w W1 B q Y 0 sn (hq.old hb1) (Nat.le_trans hB hb1.size) (hn1.rule 0) hnf (by omega)
 clear hc
 go_wp2_with fail
 refine cb.mono ?_
 clear cb
 rintro e w2 ⟨rfl,q2,hbs2,hs2⟩
 have hs02:=hs2.pre hb1
 have hn2:=(hs2.blk hn1 hnf).1
 have cn:=hn2.rule
 have cq:=hs2.at'.blk.rule
 unfold wcells at cq
 rw [hs2.c] at cq
 have hst:ListintW w B q l sn (.int .i64 0) w2:=⟨0,q2,by rw [HL.out];omega,rfl,Lib.hid (by rw [hbs2.out,HL.out];simp),hs02⟩
 go_wp2_with fail
 go_loopg [50] sn (ListintW w B q l)
 case atStart=>exact hst
 case round=>
  clear hst cn cq hn2 hn1
  obtain ⟨k,q',hk,rfl,hbs,hs⟩:=hrel
  rw [HL.out] at hk
  by_cases hlt:k<sn
  ·have t0:decide ((k:Int)<(sn:Int))=true:=by simp;omega
   have hkl:k<l.length:=by rw [HL.out];exact hlt
   have hel:=RowAt.elem (g:=bi) (sz:=1) (fun _=>rfl) (by first|exact hl.1|(have:=hl.1;rw [ints_flat];exact this)) (by omega) k hkl
   obtain ⟨b,o,rfl,hbl,hc⟩:=hel
   have hf:=hfl (List.ne_nil_of_length_pos (by omega)) _ rfl
   have HT:=Lib.hid (List.take_succ_eq_append_getElem hkl)
   have HSZ:=Lib.hid (show ∀k,((l.take k).flatMap be8).length≤8*sn from fun k=>by
    rw [enc_len (fun x=>show (be8 x).length=8 by simp [be8_length]),List.length_take,HL.out]
    exact Nat.mul_le_mul_left _ (Nat.min_le_right _ _))
   generalize l[k]=x at hc HT
   have cxr:=hs.cell hx hfx
   have ccr:CellsAt wr b (o+k) (bi x):=hs.cells (by first|exact hc|simpa [CellsAt] using hc) hf
   have cq:=hs.at'.blk.rule
   unfold wcells at cq
   rw [hs.c] at cq
   have hl2:q'.bs.length+108<1000000000000:=by
    have:=HSZ.out k
    rw [hbs.out,List.length_append,List.length_append,be8_length]
    omega
   have cb:=num_w wr B q' b (o+k) x hs.at' (Nat.le_trans hB hs.turn.size) (ccr 0 (by show 0<1;omega)) (hs.off hbl hf) (by omega)
   rw [hs.c] at cb
   clear hc
   go_wp2_with fail
   refine cb.mono ?_
   clear cb
   rintro e w3 ⟨rfl,q3,hbs3,hs3⟩
   have HB3:=Lib.hid (show q3.bs=q.bs++be8 l.length++(l.take (k+1)).flatMap be8 by rw [hbs3.out,hbs.out,HT.out,List.flatMap_append];simp)
   have hs03:=hs.trans hs3
   go_wp2_with fail
   go_roundg (gk-1)
   case measure=>omega
   case rel=>exact ⟨k+1,q3,by rw [HL.out];omega,by go_num,HB3,hs03⟩
  ·have t0:decide ((k:Int)<(sn:Int))=false:=by simp;omega
   have HB3:=Lib.hid (show q'.bs=q.bs++(be8 l.length++l.flatMap be8) by rw [hbs.out,List.take_of_length_le (by rw [HL.out];omega),List.append_assoc])
   go_wp2_with fail
   refine bodyPost_end (v:= .tuple #[]) (results_none rfl _ _ _) rfl ⟨rfl,q',HB3,hs⟩
def ListpairW (w:World) (B:Nat) (q:WC) (l:List PairL) (f:Nat) (v50:Value) (wr:World):Prop:=
 ∃(k:Nat) (q':WC),k+f=l.length∧v50= .int .i64 (k:Int)∧Hid (q'.bs=q.bs++be8 l.length++(l.take k).flatMap pairB)∧WStep B w q wr q'
set_option maxHeartbeats 4000000 in
theorem list_pair_w (w:World) (B:Nat) (q:WC) (xb xo:Nat) (s:Sl) (l:List PairL) (hq:WAt w B q) (hB:B≤w.heap.size) (hx:w.cell? ⟨xb,xo,none⟩=some (.slice s.a s.n s.c)) (hl:Pairs w s l) (hfx:¬wfoot q xb) (hfl:l≠ []→∀ad,s.a=some ad→¬wfoot q ad.block) (hz:q.bs.length+16*s.n+200<1000000000000):
  Calls Tryz.prog 149 #[.pointer (some ⟨q.c,0,none⟩),.pointer (some ⟨xb,xo,none⟩),.int .i64 16,.func (.func 150) #[.pointer (some ⟨q.c,0,none⟩)] #[]] w fun e w'=>e= .returned (.tuple #[])∧∃q',Hid (q'.bs=q.bs++(be8 l.length++l.flatMap pairB))∧WStep B w q w' q':=by
 have hxl:=World.block_lt_of_cell? w _ hx
 have hc:=hq.blk.rule
 unfold wcells at hc
 have HL:=Lib.hid hl.2.1
 have hnm:=hl.2.2.2.2.1
 obtain ⟨sa,sn,sc⟩:=s
 dsimp only at*
 go_enter Tryz.func149,Tryz.ntmps149
 go_wp2_with fail
 have r1:∀W,Old w.drew W→W.cell? ⟨q.c,1,none⟩=some (.int .i64 0):=fun W hW=>by rw [hW.cell (p:=⟨q.c,1,none⟩) hq.blk.lt];exact hc 1
 have r2:∀W,Old w.drew W→W.cell? ⟨xb,xo,none⟩=some (.slice sa sn sc):=fun W hW=>by rw [hW.cell (p:=⟨xb,xo,none⟩) hxl];exact hx
 refine wp_region_treeR true Old Old.refl Old.trans (.step 0 (.step 1 (.step 2 (.step 3 (.step 4 (.step 5 (.step 6 (.step 7 (.step 8 (.step 9 (.step 10 .done))))))))))) (by kernel_rfl) (by kernel_rfl) (fun c a d v w h=>by cases d<;>exact h) ?_
 repeat (first|(refine tree_skip rfl (by rfl) ?_;simp only [Act.put,List.setIfInBounds_toArray,List.set])|(refine tree_quiet (v:= ?_) rfl rfl (by rfl) ?_ ?_;rotate_left;(intro W hW;go_simp);(try with_reducible rfl);simp only [Act.put,List.setIfInBounds_toArray,List.set]))
 refine tree_loud rfl rfl (by rfl) (fun K hK=> ?_);go_wp2_with fail
 refine hK _ _ ((Below.refl _ _).alloc (Nat.le_refl _) _) ?_
 clear hK K r1 r2
 repeat (first|(refine tree_skip rfl (by rfl) ?_;simp only [Act.put,List.setIfInBounds_toArray,List.set])|(refine tree_quiet (v:= ?_) rfl rfl (by rfl) ?_ ?_;rotate_left;(intro W hW;go_simp);(try with_reducible rfl);simp only [Act.put,List.setIfInBounds_toArray,List.set]))
 refine tree_store rfl rfl (by rfl) (fun K hK=> ?_);go_wp2_with fail;refine tree_done ?_
 go_upto_region 1 with (fail)
 obtain ⟨Y,hY⟩:∃Y,Y=w.heap.size:=⟨_,rfl⟩
 rw [←hY]
 refine wp_forget (fun W=>Blk W Y #[.int .i64 (sn:Int)] 3∧Below w.heap.size w W) ⟨by rw [hY];exact (Blk.new w #[.int .i64 (sn:Int)] 3).drew,by (try unfold Kept);repeat (first|assumption|exact Below.refl _ _|exact below_undrew (Below.refl _ _)|exact Below.mono (by assumption) (by first|(simp;done)|(simp;omega)|omega)|refine below_setRow ?_ (by first|(simp;done)|(simp;omega)|omega) _|refine Below.setCell ?_ (by first|(simp;done)|(simp;omega)|omega) _|refine Below.alloc ?_ (by first|(simp;done)|(simp;omega)|omega) _|refine below_drewN ?_ _|refine Below.drew ?_|refine below_undrew ?_|refine below_step ?_ (by assumption))⟩ ?_
 rintro W1 ⟨hn1,hb1⟩
 have hnf:¬wfoot q Y:=by rw [hY];exact hq.fresh
 have HYW:=Lib.hid hY
 clear hY
 have cb:=num_w W1 B q Y 0 sn (hq.old hb1) (Nat.le_trans hB hb1.size) (hn1.rule 0) hnf (by omega)
 clear hc
 go_wp2_with fail
 refine cb.mono ?_
 clear cb
 rintro e w2 ⟨rfl,q2,hbs2,hs2⟩
 have hs02:=hs2.pre hb1
 have hn2:=(hs2.blk hn1 hnf).1
 have cn:=hn2.rule
 have cq:=hs2.at'.blk.rule
 unfold wcells at cq
 rw [hs2.c] at cq
 have hst:ListpairW w B q l sn (.int .i64 0) w2:=⟨0,q2,by rw [HL.out];omega,rfl,Lib.hid (by rw [hbs2.out,HL.out];simp),hs02⟩
 go_wp2_with fail
 go_loopg [50] sn (ListpairW w B q l)
 case atStart=>exact hst
 case round=>
  clear hst cn cq hn2 hn1
  obtain ⟨k,q',hk,rfl,hbs,hs⟩:=hrel
  rw [HL.out] at hk
  by_cases hlt:k<sn
  ·have t0:decide ((k:Int)<(sn:Int))=true:=by simp;omega
   have hkl:k<l.length:=by rw [HL.out];exact hlt
   have hel:=RowAt.elem (g:=PairL.cells) (sz:=2) (fun _=>rfl) (by first|exact hl.1|(have:=hl.1;rw [ints_flat];exact this)) (by omega) k hkl
   obtain ⟨b,o,rfl,hbl,hc⟩:=hel
   have hf:=hfl (List.ne_nil_of_length_pos (by omega)) _ rfl
   have HT:=Lib.hid (List.take_succ_eq_append_getElem hkl)
   have HSZ:=Lib.hid (show ∀k,((l.take k).flatMap pairB).length≤16*sn from fun k=>by
    rw [enc_len (fun x=>show (pairB x).length=16 by simp [pairB,be8_length]),List.length_take,HL.out]
    exact Nat.mul_le_mul_left _ (Nat.min_le_right _ _))
   generalize l[k]=x at hc HT
   have cxr:=hs.cell hx hfx
   have ccr:CellsAt wr b (o+k*2) (PairL.cells x):=hs.cells (by first|exact hc|simpa [CellsAt] using hc) hf
   have cq:=hs.at'.blk.rule
   unfold wcells at cq
   rw [hs.c] at cq
   have hl2:q'.bs.length+108<1000000000000:=by
    have:=HSZ.out k
    rw [hbs.out,List.length_append,List.length_append,be8_length]
    omega
   have cb:=pair_w wr B q' b (o+k*2) x hs.at' (Nat.le_trans hB hs.turn.size) ccr (hs.off hbl hf) (by omega)
   rw [hs.c] at cb
   clear hc
   go_wp2_with fail
   refine cb.mono ?_
   clear cb
   rintro e w3 ⟨rfl,q3,hbs3,hs3⟩
   have HB3:=Lib.hid (show q3.bs=q.bs++be8 l.length++(l.take (k+1)).flatMap pairB by rw [hbs3.out,hbs.out,HT.out,List.flatMap_append];simp)
   have hs03:=hs.trans hs3
   go_wp2_with fail
   go_roundg (gk-1)
   case measure=>omega
   case rel=>exact ⟨k+1,q3,by rw [HL.out];omega,by go_num,HB3,hs03⟩
  ·have t0:decide ((k:Int)<(sn:Int))=false:=by simp;omega
   have HB3:=Lib.hid (show q'.bs=q.bs++(be8 l.length++l.flatMap pairB) by rw [hbs.out,List.take_of_length_le (by rw [HL.out];omega),List.append_assoc])
   go_wp2_with fail
   refine bodyPost_end (v:= .tuple #[]) (results_none rfl _ _ _) rfl ⟨rfl,q',HB3,hs⟩
theorem encL_len (l:List Int):(encL l).length=8+8*l.length:=by
 unfold encL
 rw [List.length_append,be8_length,enc_len be8_length]
theorem encP_len (l:List PairL):(encP l).length=8+16*l.length:=by
 unfold encP
 rw [List.length_append,be8_length,enc_len (n:=16) (fun x=>by simp [pairB,be8_length])]
theorem tr1_len (b:Bool):(tr1 b).length=1:=rfl
def InB (B:Nat) (a:Option Addr) (n:Nat):Prop:=0<n→∀ad,a=some ad→ad.block<B
theorem InB.mono {B B':Nat} {a:Option Addr} {n:Nat} (h:InB B a n) (hB:B≤B'):InB B' a n:=fun h1 ad h2=>Nat.lt_of_lt_of_le (h h1 ad h2) hB
theorem RowAt.low {w w':World} {B:Nat} {a:Option Addr} {vs:List Value} {n:Nat} (h:RowAt w a vs) (hi:InB B a n) (hn:n=0→vs=[]) (hb:Below B w w'):RowAt w' a vs:=fun i hi2=>by
 obtain ⟨b,o,e,hc⟩:=h i hi2
 have hp:0<n:=by
  rcases Nat.eq_zero_or_pos n with h0|h0
  ·rw [hn h0] at hi2;simp at hi2
  ·exact h0
 exact ⟨b,o,e,(World.cell?_of_block (a:=⟨b,o+i,none⟩) (hb.block b (hi hp _ e))).trans hc⟩
theorem Ints.low {w w':World} {B:Nat} {s:Sl} {l:List Int} (h:Ints w s l) (hi:InB B s.a s.n) (hb:Below B w w'):Ints w' s l:=
 ⟨RowAt.low h.1 hi (fun h0=>by have:=h.2.1;rw [h0] at this;rw [List.eq_nil_of_length_eq_zero this];rfl) hb,h.2⟩
theorem Pairs.low {w w':World} {B:Nat} {s:Sl} {l:List PairL} (h:Pairs w s l) (hi:InB B s.a s.n) (hb:Below B w w'):Pairs w' s l:=
 ⟨RowAt.low h.1 hi (fun h0=>by have:=h.2.1;rw [h0] at this;rw [List.eq_nil_of_length_eq_zero this];rfl) hb,h.2⟩
theorem Ints.inB {w:World} {s:Sl} {l:List Int} (h:Ints w s l):InB w.heap.size s.a s.n:=fun hn ad ha=>by
 obtain ⟨b,o,e,hc⟩:=h.1 0 (by have:=h.2.1;simp;omega)
 rw [ha] at e
 cases e
 exact World.block_lt_of_cell? w _ hc
theorem Pairs.inB {w:World} {s:Sl} {l:List PairL} (h:Pairs w s l):InB w.heap.size s.a s.n:=fun hn ad ha=>by
 have hl:(l.flatMap PairL.cells).length=2*l.length:=by
  have e:∀l:List PairL,(l.flatMap PairL.cells).length=2*l.length:=fun l=>by
   induction l with
   |nil=>rfl
   |cons x l ih=>rw [List.flatMap_cons,List.length_append,ih,List.length_cons];show 2+_=_;omega
  exact e l
 obtain ⟨b,o,e,hc⟩:=h.1 0 (by have:=h.2.1;omega)
 rw [ha] at e
 cases e
 exact World.block_lt_of_cell? w _ hc
theorem InB.off {w:World} {B:Nat} {q:WC} (hq:WAt w B q) {s:Sl} {n:Nat} (hn:n=s.n) (h:InB B s.a s.n) {α:Type} {l:List α} (hl:l.length=s.n):l≠ []→∀ad,s.a=some ad→¬wfoot q ad.block:=fun hne ad ha hf=>by
 have h1:=(hq.lt hf).1
 have h2:=h (by have:=List.length_pos_iff.2 hne;omega) ad ha
 omega
structure ActionIn (w:World) (B:Nat) (p:ActionP) (h:ActionH):Prop where
 at':ActionAt w p h
 ids:InB B h.ids.a h.ids.n
 pairs:InB B h.pairs.a h.pairs.n
theorem ActionIn.low {w w':World} {B:Nat} {p:ActionP} {h:ActionH} (a:ActionIn w B p h) (hb:Below B w w'):ActionIn w' B p h:=
 ⟨⟨a.at'.op,a.at'.side,a.at'.place,a.at'.target,a.at'.ids.low a.ids hb,a.at'.pairs.low a.pairs hb⟩,a.ids,a.pairs⟩
theorem ActionIn.of {w:World} {p:ActionP} {h:ActionH} (a:ActionAt w p h):ActionIn w w.heap.size p h:=⟨a,a.ids.inB,a.pairs.inB⟩
theorem ActionIn.mono {w:World} {B B':Nat} {p:ActionP} {h:ActionH} (a:ActionIn w B p h) (hB:B≤B'):ActionIn w B' p h:=⟨a.at',a.ids.mono hB,a.pairs.mono hB⟩
set_option maxHeartbeats 4000000 in
theorem action_w (w:World) (B:Nat) (q:WC) (b:Nat) (p:ActionP) (h:ActionH) (hq:WAt w B q) (hB:B≤w.heap.size) (hx:Blk w b (actionCells p h).toArray 38) (ha:ActionIn w B p h) (hb:b<B) (hz:q.bs.length+2*(actionI p).length+2000<1000000000000):
  Calls Tryz.prog 121 #[.pointer (some ⟨q.c,0,none⟩),.pointer (some ⟨b,0,none⟩)] w fun e w'=>e= .returned (.tuple #[])∧∃q',Hid (q'.bs=q.bs++actionI p)∧WStep B w q w' q':=by
 have hmf:∀(fn:Fn) (first cap:Array Value) (w:World),(Instr.makeFunc fn first cap).run Tryz.prog w= .ok (.func fn first cap) w:=fun _ _ _ _=>rfl
 have hlen:(actionI p).length=48+8*p.ids.length+16*p.pairs.length:=by
  simp only [actionI,List.length_append,be8_length,encL_len,encP_len]
  omega
 rw [hlen] at hz
 clear hlen
 have x0:w.cell? ⟨b,0,none⟩=some (.int .i8 p.op):=hx.rule 0
 have x1:w.cell? ⟨b,1,none⟩=some (.int .i64 p.side):=hx.rule 1
 have x2:w.cell? ⟨b,2,none⟩=some (.int .i64 p.place):=hx.rule 2
 have x3:w.cell? ⟨b,3,none⟩=some (.int .i64 p.target):=hx.rule 3
 have x4:w.cell? ⟨b,4,none⟩=some (.slice h.ids.a h.ids.n h.ids.c):=hx.rule 4
 have x5:w.cell? ⟨b,5,none⟩=some (.slice h.pairs.a h.pairs.n h.pairs.c):=hx.rule 5
 have z0:w.frozen? ⟨b,0,none⟩=false:=hx.free 0
 have hbl:=hx.lt
 have hoff:∀{W:World} {Q:WC},WAt W B Q→¬wfoot Q b:=fun hQ hf=>by have:=(hQ.lt hf).1;omega
 have hf:=hoff hq
 clear hx
 have hal:=ha.at'.ids.2.1
 have hpl:=ha.at'.pairs.2.1
 obtain ⟨op,side,place,target,ids,pairs⟩:=p
 dsimp only at*
 go_enter Tryz.func121,Tryz.ntmps121
 have cb:=small_w w B q b 0 op hq hB x0 z0 ha.at'.op hf (by omega)
 go_wp2_with fail
 refine cb.mono ?_
 clear cb
 rintro e w1 ⟨rfl,q1,hbs1,hs1⟩
 have hc1:=hs1.c
 have hb1':=hs1.at'.blk.lt
 go_upto_region 1 with (fail)
 have y1:=hs1.cell x1 hf
 have y2:=hs1.cell x2 hf
 have y3:=hs1.cell x3 hf
 have hf1:=hoff hs1.at'
 have hbl1:=Nat.lt_of_lt_of_le hbl hs1.turn.size
 have hB1:=Nat.le_trans hB hs1.turn.size
 have hq1:=hs1.at'
 have hl1:q1.bs.length=q.bs.length+8:=by rw [hbs1.out,List.length_append,be8_length]
 refine wp_region_treeR false (KeepAt (fun _=>False)) (KeepAt.refl _) (fun _ _ _ h1 h2=>KeepAt.trans h1 h2) (.step 0 (.step 1 (.step 2 (.step 3 (.step 4 (.step 5 (.step 6 (.step 7 (.step 8 (.step 9 (.step 10 (.step 11 .done)))))))))))) (by kernel_rfl) (by kernel_rfl) (fun c a d v w h=>by cases d<;>exact h) ?_
 repeat (first|(refine tree_skip rfl (by rfl) ?_;simp only [Act.put,List.setIfInBounds_toArray,List.set])|(refine tree_quiet (v:= ?_) rfl rfl (by rfl) ?_ ?_;rotate_left;(intro W hW;go_simp);(try with_reducible rfl);simp only [Act.put,List.setIfInBounds_toArray,List.set]))
 refine tree_loud rfl rfl (by rfl) (fun K hK=> ?_);go_wp2_with fail
 refine hK _ _ ⟨by simp,fun _ h=>h.elim⟩ ?_
 clear hK K
 repeat (first|(refine tree_skip rfl (by rfl) ?_;simp only [Act.put,List.setIfInBounds_toArray,List.set])|(refine tree_quiet (v:= ?_) rfl rfl (by rfl) ?_ ?_;rotate_left;(intro W hW;go_simp);(try with_reducible rfl);simp only [Act.put,List.setIfInBounds_toArray,List.set]))
 refine tree_loud rfl rfl (by rfl) (fun K hK=> ?_);go_wp2_with fail
 have hb1:Below w1.heap.size w1 (w1.alloc (.cells #[.pointer (some ⟨b,1,none⟩),.pointer (some ⟨b,2,none⟩),.pointer (some ⟨b,3,none⟩)] 209)).drew:=by (try unfold Kept);repeat (first|assumption|exact Below.refl _ _|exact below_undrew (Below.refl _ _)|exact Below.mono (by assumption) (by first|(simp;done)|(simp;omega)|omega)|refine below_setRow ?_ (by first|(simp;done)|(simp;omega)|omega) _|refine Below.setCell ?_ (by first|(simp;done)|(simp;omega)|omega) _|refine Below.alloc ?_ (by first|(simp;done)|(simp;omega)|omega) _|refine below_drewN ?_ _|refine Below.drew ?_|refine below_undrew ?_|refine below_step ?_ (by assumption))
 have cb:=nums_w _ B q1 w1.heap.size 3 [(b,1,side),(b,2,place),(b,3,target)] (hq1.old hb1) (Nat.le_trans hB1 hb1.size) (Blk.new w1 #[.pointer (some ⟨b,1,none⟩),.pointer (some ⟨b,2,none⟩),.pointer (some ⟨b,3,none⟩)] 209).drew hq1.fresh rfl (fun x hx=>by
  simp only [List.mem_cons,List.mem_nil_iff,or_false] at hx
  rcases hx with rfl|rfl|rfl
  ·exact ⟨by rw [hb1.cell (p:=⟨b,_,none⟩) hbl1];exact y1,hf1⟩
  ·exact ⟨by rw [hb1.cell (p:=⟨b,_,none⟩) hbl1];exact y2,hf1⟩
  ·exact ⟨by rw [hb1.cell (p:=⟨b,_,none⟩) hbl1];exact y3,hf1⟩) (by omega)
 rw [hc1] at cb
 refine cb.mono ?_
 clear cb
 rintro e w2 ⟨rfl,q2,hbs2,hs2⟩
 have hz2:=hs2.turn.size
 replace hs2:=hs2.pre hb1
 go_wp2_with fail
 refine hK _ _ ⟨by simpa using hz2,fun _ h=>h.elim⟩ ?_
 clear hK K
 refine tree_done ?_
 have hs02:=hs1.trans hs2
 have HB2:=Lib.hid (show q2.bs=q.bs++(be8 op++be8 side++be8 place++be8 target) by rw [hbs2.out,hbs1.out];simp)
 have cb:=list_int_w w2 B q2 b 4 h.ids ids hs02.at' (Nat.le_trans hB hs02.turn.size) (hs02.cell x4 hf) (ha.low (hs02.below hq hB)).at'.ids (hoff hs02.at') (InB.off hs02.at' rfl ha.ids hal) (by rw [HB2.out];simp only [List.length_append,be8_length,encL_len,tr1_len];omega)
 rw [hs02.c] at cb
 go_wp2_with fail
 refine cb.mono ?_
 clear cb
 rintro e w3 ⟨rfl,q3,hbs3,hs3⟩
 have HB3:=Lib.hid (show q3.bs=q.bs++(be8 op++be8 side++be8 place++be8 target++encL ids) by rw [hbs3.out,HB2.out];simp [encL,encU,encP])
 have hs03:=hs02.trans hs3
 have cb:=list_pair_w w3 B q3 b 5 h.pairs pairs hs03.at' (Nat.le_trans hB hs03.turn.size) (hs03.cell x5 hf) (ha.low (hs03.below hq hB)).at'.pairs (hoff hs03.at') (InB.off hs03.at' rfl ha.pairs hpl) (by rw [HB3.out];simp only [List.length_append,be8_length,encL_len,tr1_len];omega)
 rw [hs03.c] at cb
 go_wp2_with fail
 refine cb.mono ?_
 clear cb
 rintro e w4 ⟨rfl,q4,hbs4,hs4⟩
 have HB4:=Lib.hid (show q4.bs=q.bs++(be8 op++be8 side++be8 place++be8 target++encL ids++encP pairs) by rw [hbs4.out,HB3.out];simp [encL,encU,encP])
 have hs04:=hs03.trans hs4
 go_wp2_with fail
 refine bodyPost_end (v:= .tuple #[]) (results_none rfl _ _ _) rfl ⟨rfl,q4,Lib.hid ?_,hs04⟩
 rw [HB4.out]
 simp [actionI]
end
section
open Go.ChangeShapes Go.WideShapes Go.ChangeAt Go.RowKit
set_option maxRecDepth 20000
structure DeedP where
 kind:Int
 game:Int
 table:Int
 fmt:Name
 n0:Name
 n1:Name
 d0:List Int
 d1:List Int
 dr:List Int
 act:ActionP
deriving DecidableEq
structure DeedH where
 d0:Sl
 d1:Sl
 dr:Sl
 act:ActionH
deriving Inhabited
def deedCells (p:DeedP) (h:DeedH):List Value:=[.int .i8 p.kind,.int .i64 p.game,.int .i64 p.table,.string p.fmt,.string p.n0,.string p.n1,.slice h.d0.a h.d0.n h.d0.c,.slice h.d1.a h.d1.n h.d1.c,.slice h.dr.a h.dr.n h.dr.c,.int .i8 p.act.op,.int .i64 p.act.side,.int .i64 p.act.place,.int .i64 p.act.target,.slice h.act.ids.a h.act.ids.n h.act.ids.c,.slice h.act.pairs.a h.act.pairs.n h.act.pairs.c]
def deedVal (p:DeedP) (h:DeedH):Value:= .agg #[.int .i8 p.kind,.int .i64 p.game,.int .i64 p.table,.string p.fmt,.string p.n0,.string p.n1,.slice h.d0.a h.d0.n h.d0.c,.slice h.d1.a h.d1.n h.d1.c,.slice h.dr.a h.dr.n h.dr.c,.int .i8 p.act.op,.int .i64 p.act.side,.int .i64 p.act.place,.int .i64 p.act.target,.slice h.act.ids.a h.act.ids.n h.act.ids.c,.slice h.act.pairs.a h.act.pairs.n h.act.pairs.c]
theorem deedVal_cells (p:DeedP) (h:DeedH):deedVal p h= .agg (deedCells p h).toArray:=rfl
theorem deedCells_len (p:DeedP) (h:DeedH):(deedCells p h).length=15:=rfl
def strZ (s:Name):Prop:=s.size≤140737488351232
structure DeedAt (w:World) (p:DeedP) (h:DeedH):Prop where
 kind:wf8 p.kind
 game:wf64 p.game
 table:wf64 p.table
 fmt:strZ p.fmt
 n0:strZ p.n0
 n1:strZ p.n1
 d0:Ints w h.d0 p.d0
 d1:Ints w h.d1 p.d1
 dr:Ints w h.dr p.dr
 act:ActionAt w p.act h.act
theorem DeedAt.old {w w':World} {p:DeedP} {h:DeedH} (a:DeedAt w p h) (hb:Below w.heap.size w w'):DeedAt w' p h:=
 ⟨a.kind,a.game,a.table,a.fmt,a.n0,a.n1,a.d0.old hb,a.d1.old hb,a.dr.old hb,a.act.old hb⟩
structure DeedOwn (w:World) (B:Nat) (p:DeedP) (h:DeedH):Prop where
 kind:wf8 p.kind
 game:wf64 p.game
 table:wf64 p.table
 fmt:strZ p.fmt
 n0:strZ p.n0
 n1:strZ p.n1
 d0:OwnInts w B h.d0 p.d0
 d1:OwnInts w B h.d1 p.d1
 dr:OwnInts w B h.dr p.dr
 act:ActionOwn w B p.act h.act
section
variable {w w':World} {B:Nat} {p:DeedP} {h:DeedH}
theorem DeedOwn.at (a:DeedOwn w B p h):DeedAt w p h:=⟨a.kind,a.game,a.table,a.fmt,a.n0,a.n1,a.d0.at,a.d1.at,a.dr.at,a.act.at⟩
theorem DeedOwn.old (a:DeedOwn w B p h) (hb:Below w.heap.size w w'):DeedOwn w' B p h:=⟨a.kind,a.game,a.table,a.fmt,a.n0,a.n1,a.d0.old hb,a.d1.old hb,a.dr.old hb,a.act.old hb⟩
theorem DeedOwn.lower (a:DeedOwn w B p h) {B':Nat} (hB:B'≤B):DeedOwn w B' p h:=⟨a.kind,a.game,a.table,a.fmt,a.n0,a.n1,a.d0.lower hB,a.d1.lower hB,a.dr.lower hB,a.act.lower hB⟩
end
structure DeedIn (w:World) (B:Nat) (p:DeedP) (h:DeedH):Prop where
 at':DeedAt w p h
 d0:InB B h.d0.a h.d0.n
 d1:InB B h.d1.a h.d1.n
 dr:InB B h.dr.a h.dr.n
 ids:InB B h.act.ids.a h.act.ids.n
 pairs:InB B h.act.pairs.a h.act.pairs.n
theorem DeedIn.of {w:World} {p:DeedP} {h:DeedH} (a:DeedAt w p h):DeedIn w w.heap.size p h:=⟨a,a.d0.inB,a.d1.inB,a.dr.inB,a.act.ids.inB,a.act.pairs.inB⟩
theorem str1C:Tryz.prog.cellsOf 9=1:=by kernel_rfl
theorem str2C:Tryz.prog.cellsOf 33=2:=by kernel_rfl
theorem ints2C:Tryz.prog.cellsOf 35=2:=by kernel_rfl
theorem act6C:Tryz.prog.cellsOf 38=6:=by kernel_rfl
theorem deedT:AggT Tryz.prog 40 15:=⟨⟨_,Tryz.underlying40,rfl⟩,by kernel_rfl⟩
theorem actT:AggT Tryz.prog 38 6:=⟨⟨_,Tryz.underlying38,rfl⟩,by kernel_rfl⟩
section
variable {H:Type} {enc:TypeId×Value→H} {P:Program} {w:World}
theorem Came.name {t:TypeId} {c:Value} (h:Came enc P w t [c]) (hs:P.underlying t=some .string):∃s:Name,c= .string s∧strZ s:=by
 obtain ⟨n,x,h1,h2⟩:=h
 obtain ⟨s,hc,hx,_⟩:=DataW.trod_string hs h1
 simp at hc
 refine ⟨s,hc,?_⟩
 have:=h2 s.data.toList.length (by rw [hx];simp [DataW.weights])
 rw [Array.length_toList] at this
 exact this
end
section
variable {H:Type} {enc:TypeId×Value→H} {w:World}
theorem came_deed {cs:List Value} (hlen:cs.length=15) (hc:Came enc Tryz.prog w 40 cs):∃(p:DeedP) (h:DeedH),cs=deedCells p h∧DeedAt w p h:=by
 have f0:=hc.field Tryz.underlying40 0 (by decide)
 have f1:=hc.field Tryz.underlying40 1 (by decide)
 have f2:=hc.field Tryz.underlying40 2 (by decide)
 have f3:=hc.field Tryz.underlying40 3 (by decide)
 have f4:=hc.field Tryz.underlying40 4 (by decide)
 have f5:=hc.field Tryz.underlying40 5 (by decide)
 have f6:=hc.field Tryz.underlying40 6 (by decide)
 have f7:=hc.field Tryz.underlying40 7 (by decide)
 match cs,hlen with
 | [c0,c1,c2,c3,c4,c5,c6,c7,c8,c9,c10,c11,c12,c13,c14],_=>
  simp [i8c,int1,ints1,str1C,str2C,ints2C,act6C] at f0 f1 f2 f3 f4 f5 f6 f7
  have g0:=f4.elem Tryz.underlying33 0 (by decide)
  have g1:=f4.elem Tryz.underlying33 1 (by decide)
  have k0:=f5.elem Tryz.underlying35 0 (by decide)
  have k1:=f5.elem Tryz.underlying35 1 (by decide)
  simp [str1C,ints1] at g0 g1 k0 k1
  obtain ⟨n0,rfl,w0⟩:=f0.int Tryz.underlying32
  obtain ⟨n1,rfl,w1⟩:=f1.int Tryz.underlying3
  obtain ⟨n2,rfl,w2⟩:=f2.int Tryz.underlying3
  obtain ⟨n3,rfl,w3⟩:=f3.name Tryz.underlying9
  obtain ⟨n4,rfl,w4⟩:=g0.name Tryz.underlying9
  obtain ⟨n5,rfl,w5⟩:=g1.name Tryz.underlying9
  obtain ⟨s6,l6,rfl,w6⟩:=came_ints' k0
  obtain ⟨s7,l7,rfl,w7⟩:=came_ints' k1
  obtain ⟨s8,l8,rfl,w8⟩:=came_ints' f6
  obtain ⟨p,h,e,w9⟩:=came_action rfl f7
  unfold actionCells at e
  simp only [List.cons.injEq] at e
  obtain ⟨rfl,rfl,rfl,rfl,rfl,rfl,-⟩:=e
  exact ⟨⟨n0,n1,n2,n3,n4,n5,l6,l7,l8,p⟩,⟨s6,s7,s8,h⟩,rfl,⟨w0,w1,w2,w3,w4,w5,w6,w7,w8,w9⟩⟩
theorem came_deed' {W:World} {v:Value} {d:DataW H} {ps:List MemPlace} {r:Reach} {b0:Nat} (hz:∀n∈d.weights Tryz.prog 40,n≤reachBytes) (hv:Value.okWide Tryz.prog W r b0 40 v) (h:DataW.Trod enc Tryz.prog W 0 (fun _=>true) true 40 v d ps):
  ∃p g,v=deedVal p g∧DeedAt W p g:=by
 obtain ⟨cs,rfl,hl,hc⟩:=came_agg Tryz.underlying40 (show Tryz.prog.cellsOf 40=15 by kernel_rfl) hz hv h
 obtain ⟨p,g,rfl,ha⟩:=came_deed hl hc
 exact ⟨p,g,(deedVal_cells p g).symm,ha⟩
end
end
end Go.Proofs.YtioigihakjlopaaGreat
