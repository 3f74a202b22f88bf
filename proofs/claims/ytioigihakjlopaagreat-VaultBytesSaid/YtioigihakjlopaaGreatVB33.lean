/- Texts put together and cut to what is used: VRSame. -/
import Derived.Test.YtioigihakjlopaaGreatVB32
namespace Go.Proofs.YtioigihakjlopaaGreat
set_option linter.unusedVariables false
set_option linter.unusedSimpArgs false
section
open Go.RowKit
set_option maxRecDepth 20000
theorem IntRow.cellR {w:World} {a:Option Addr} {n c:Nat} {l:List Int} (h:IntRow w a n c l) (k:Nat) (hk:k<l.length):∃b o,a=some ⟨b,o,none⟩∧w.cell? ⟨b,o+k,none⟩=some (.int .i64 l[k]):=by
 obtain ⟨b,o,e,hc⟩:=h.1 k (by simpa using hk)
 exact ⟨b,o,e,by simpa using hc⟩
def SameRowRel (w:World) (l m:List Int) (n:Nat) (f:Nat) (i:Value) (w':World):Prop:=
 ∃k:Nat,k+f=n∧i= .int .i64 (k:Int)∧l.take k=m.take k∧Below w.heap.size w w'
set_option maxHeartbeats 1000000 in
theorem same_row_any (a b:Option Addr) (n c n' c':Nat) (l m:List Int) (w:World) (hl:IntRow w a n c l) (hm:IntRow w b n' c' m):
  Calls Tryz.prog 96 #[.slice a n c,.slice b n' c'] w fun e w'=>e= .returned (.bool (decide (l=m)))∧Below w.heap.size w w':=by
 have HL:=Lib.hid hl.2.1
 have HM:=Lib.hid hm.2.1
 have hsm:=hl.2.2.2.2.1
 by_cases hnn:n=n'
 ·subst hnn
  go_enter Tryz.func96,Tryz.ntmps96
  go_wp2_with fail
  go_loopg [5] n (SameRowRel w l m n)
  case atStart=>exact ⟨0,Nat.zero_add _,rfl,rfl,Below.refl _ _⟩
  case round=>
   obtain ⟨k,hk,rfl,heq,hbw⟩:=hrel
   have HQ:=Lib.hid heq
   clear heq
   by_cases hlt:k<n
   ·have t0:decide ((k:Int)<(n:Int))=true:=by simp;omega
    have hkl:k<l.length:=by rw [HL.out];exact hlt
    have hkm:k<m.length:=by rw [HM.out];exact hlt
    obtain ⟨b1,o1,rfl,hc1⟩:=IntRow.cellR hl k hkl
    obtain ⟨b2,o2,rfl,hc2⟩:=IntRow.cellR hm k hkm
    have L1:∀W,Old wr.drew W→W.cell? ⟨b1,o1+k,none⟩=some (.int .i64 l[k]):=fun W h=>by
     rw [(below_step (below_step hbw (Below.refl _ _).drew) h).cell (World.block_lt_of_cell? w _ hc1)];exact hc1
    have L2:∀W,Old wr.drew W→W.cell? ⟨b2,o2+k,none⟩=some (.int .i64 m[k]):=fun W h=>by
     rw [(below_step (below_step hbw (Below.refl _ _).drew) h).cell (World.block_lt_of_cell? w _ hc2)];exact hc2
    clear hc1 hc2
    have h1:=List.take_succ_eq_append_getElem hkl
    have h2:=List.take_succ_eq_append_getElem hkm
    have H1:=Lib.hid h1
    have H2:=Lib.hid h2
    have hdiff:l[k]≠m[k]→l≠m:=fun h e=>h (by subst e;rfl)
    have HD:=Lib.hid hdiff
    clear h1 h2 hdiff
    generalize l[k]=x at*
    generalize m[k]=y at*
    by_cases hxy:x=y
    ·subst hxy
     go_wp2_with fail
     refine wp_region_old (0::1::2::3::4::5::6::7::8::[]) (by kernel_rfl) (by kernel_rfl) (fun c a d v w h=>by cases d<;>exact h) ?_
     repeat (first|(refine lex_skip rfl (by rfl) ?_;simp only [Act.put,List.setIfInBounds_toArray,List.set])|(refine lex_quiet (v:= ?_) rfl rfl (by rfl) ?_ ?_;rotate_left;(intro W hW;go_simp);(try with_reducible rfl);simp only [Act.put,List.setIfInBounds_toArray,List.set]))
     refine lex_nil ?_
     go_wp2_with fail
     go_roundg (gk-1)
     case measure=>omega
     case rel=>exact ⟨k+1,by omega,by go_num,by rw [H1.out,H2.out,HQ.out],below_step hbw (Below.refl _ _).drew⟩
    ·have t1:(x !=y)=true:=by simpa using hxy
     have hne:=HD.out hxy
     have HN:=Lib.hid hne
     have HX:=Lib.hid hxy
     clear hne hxy
     go_wp2_with fail
     refine wp_region_old (0::1::2::3::4::5::6::7::8::[]) (by kernel_rfl) (by kernel_rfl) (fun c a d v w h=>by cases d<;>exact h) ?_
     repeat (first|(refine lex_skip rfl (by rfl) ?_;simp only [Act.put,List.setIfInBounds_toArray,List.set])|(refine lex_quiet (v:= ?_) rfl rfl (by rfl) ?_ ?_;rotate_left;(intro W hW;go_simp);(try with_reducible rfl);simp only [Act.put,List.setIfInBounds_toArray,List.set]))
     refine lex_nil ?_
     go_wp2_with fail
     go_ret
     exact ⟨by rw [decide_eq_false HN.out];rfl,below_step hbw (Below.refl _ _).drew⟩
   ·have t0:decide ((k:Int)<(n:Int))=false:=by simp;omega
    go_wp2_with fail
    go_ret
    have e1:l.take k=l:=List.take_of_length_le (by rw [HL.out];omega)
    have e2:m.take k=m:=List.take_of_length_le (by rw [HM.out];omega)
    have:=HQ.out
    rw [e1,e2] at this
    exact ⟨by rw [decide_eq_true this];rfl,hbw⟩
 ·have hne:l≠m:=fun e=>hnn (by rw [←HL.out,←HM.out,e])
  have t0:((n:Int) !=(n':Int))=true:=by simp;omega
  go_enter Tryz.func96,Tryz.ntmps96
  go_wp2_with fail
  go_ret
  exact ⟨by rw [decide_eq_false hne];rfl,Below.refl _ _⟩
theorem PairsAt.elemR {w:World} {s:Sl} {l:List PairL} (h:Pairs w s l) (k:Nat) (hk:k<l.length):
  ∃b o,s.a=some ⟨b,o,none⟩∧b<w.heap.size∧∀j (hj:j<l[k].cells.length),w.cell? ⟨b,o+k*2+j,none⟩=some l[k].cells[j]:=
 RowAt.elem (g:=PairL.cells) (sz:=2) (fun _=>rfl) h.1 (by omega) k hk
def SmA (w:World) (X n:Nat) (cs ds:Array Value) (l m:List PairL) (f:Nat) (i:Value) (wr:World):Prop:=
 ∃k:Nat,k+f=n∧i= .int .i64 (k:Int)∧l.take k=m.take k∧Blk wr X cs 38∧Blk wr (X+1) ds 38∧Below w.heap.size w wr
set_option maxHeartbeats 4000000 in
theorem rsameA_any (p q:ActionP) (h g:ActionH) (w:World) (hp:ActionAt w p h) (hq:ActionAt w q g):
  Calls Tryz.prog 97 #[actionVal p h,actionVal q g] w fun e w'=>e= .returned (.bool (decide (p=q)))∧Below w.heap.size w w':=by
 obtain ⟨op,side,place,target,ids,pairs⟩:=p
 obtain ⟨op',side',place',target',ids',pairs'⟩:=q
 obtain ⟨⟨ia,inn,ic⟩,⟨pa,pn,pc⟩⟩:=h
 obtain ⟨⟨ja,jn,jc⟩,⟨qa,qn,qc⟩⟩:=g
 have hi1:Ints w ⟨ia,inn,ic⟩ ids:=hp.ids
 have hi2:Ints w ⟨ja,jn,jc⟩ ids':=hq.ids
 have hp1:Pairs w ⟨pa,pn,pc⟩ pairs:=hp.pairs
 have hp2:Pairs w ⟨qa,qn,qc⟩ pairs':=hq.pairs
 clear hp hq
 obtain ⟨R,hR⟩:∃R,R=decide ((⟨op,side,place,target,ids,pairs⟩:ActionP)=⟨op',side',place',target',ids',pairs'⟩):=⟨_,rfl⟩
 rw [←hR]
 have e0:∃c,(op !=op')=c∧(c=true→R=false):=⟨_,rfl,fun h=>by rw [hR];refine decide_eq_false fun e=> ?_;cases e;simp at h⟩
 have e1:∃c,(side !=side')=c∧(c=true→R=false):=⟨_,rfl,fun h=>by rw [hR];refine decide_eq_false fun e=> ?_;cases e;simp at h⟩
 have e2:∃c,(place !=place')=c∧(c=true→R=false):=⟨_,rfl,fun h=>by rw [hR];refine decide_eq_false fun e=> ?_;cases e;simp at h⟩
 have e3:∃c,(target !=target')=c∧(c=true→R=false):=⟨_,rfl,fun h=>by rw [hR];refine decide_eq_false fun e=> ?_;cases e;simp at h⟩
 have e4:∃c,decide (ids=ids')=c∧(c=false→R=false):=⟨_,rfl,fun h=>by rw [hR];refine decide_eq_false fun e=> ?_;cases e;simp at h⟩
 have e5:∃c,((pn:Int) !=(qn:Int))=c∧(c=true→R=false):=⟨_,rfl,fun h=>by
  rw [hR];refine decide_eq_false fun e=> ?_;cases e
  have k1:pairs.length=pn:=hp1.2.1
  have k2:pairs.length=qn:=hp2.2.1
  rw [←k1,←k2] at h;simp at h⟩
 have e6:pn=qn→op=op'→side=side'→place=place'→target=target'→ids=ids'→(pairs=pairs'→R=true)∧(pairs≠pairs'→R=false):=fun _ h1 h2 h3 h4 h5=>by
  subst h1 h2 h3 h4 h5
  rw [hR]
  exact ⟨fun e=>by subst e;simp,fun h=>decide_eq_false fun e=>h (by cases e;rfl)⟩
 clear hR
 obtain ⟨c0,f0,n0⟩:=e0
 obtain ⟨c1,f1,n1⟩:=e1
 obtain ⟨c2,f2,n2⟩:=e2
 obtain ⟨c3,f3,n3⟩:=e3
 obtain ⟨c4,f4,n4⟩:=e4
 obtain ⟨c5,f5,n5⟩:=e5
 have N0:=Lib.hid n0
 have N1:=Lib.hid n1
 have N2:=Lib.hid n2
 have N3:=Lib.hid n3
 have N4:=Lib.hid n4
 have N5:=Lib.hid n5
 have E6:=Lib.hid e6
 have F4:=Lib.hid f4
 clear n0 n1 n2 n3 n4 n5 e6 f4
 unfold actionVal
 dsimp only
 go_enter Tryz.func97,Tryz.ntmps97
 go_upto_region 1 with (fail)
 have hb1:Below w.heap.size w ((w.alloc (.cells #[.int .i8 op,.int .i64 side,.int .i64 place,.int .i64 target,.slice ia inn ic,.slice pa pn pc] 38)).alloc (.cells #[.int .i8 op',.int .i64 side',.int .i64 place',.int .i64 target',.slice ja jn jc,.slice qa qn qc] 38)):=by (try unfold Kept);repeat (first|assumption|exact Below.refl _ _|exact below_undrew (Below.refl _ _)|exact Below.mono (by assumption) (by first|(simp;done)|(simp;omega)|omega)|refine below_setRow ?_ (by first|(simp;done)|(simp;omega)|omega) _|refine Below.setCell ?_ (by first|(simp;done)|(simp;omega)|omega) _|refine Below.alloc ?_ (by first|(simp;done)|(simp;omega)|omega) _|refine below_drewN ?_ _|refine Below.drew ?_|refine below_undrew ?_|refine below_step ?_ (by assumption))
 have hz:=((Below.refl _ w).alloc (Nat.le_refl _) (.cells #[.int .i8 op,.int .i64 side,.int .i64 place,.int .i64 target,.slice ia inn ic,.slice pa pn pc] 38)).size
 obtain ⟨X,hX⟩:∃X,X=w.heap.size:=⟨_,rfl⟩
 refine wp_forget (fun W=>Blk W X #[.int .i8 op,.int .i64 side,.int .i64 place,.int .i64 target,.slice ia inn ic,.slice pa pn pc] 38∧Blk W (X+1) #[.int .i8 op',.int .i64 side',.int .i64 place',.int .i64 target',.slice ja jn jc,.slice qa qn qc] 38∧Below w.heap.size w W) ⟨by rw [hX];exact Blk.new2 _ _ _ _,by rw [hX];exact Blk.new2' _ _ _ _,hb1⟩ ?_
 clear hb1 hz
 rw [←hX]
 have HX:=Lib.hid hX
 clear hX
 rintro W1 ⟨bX,bY,hb1⟩
 rw [HX.out] at hb1
 have A:=bX.rule
 have B:=bY.rule
 go_wp2_with fail
 any_goals first|(have q:=N0.out (by assumption);go_ret;exact ⟨by rw [q];rfl,hb1⟩)|(have q:=N1.out (by assumption);go_ret;exact ⟨by rw [q];rfl,hb1⟩)|(have q:=N2.out (by assumption);go_ret;exact ⟨by rw [q];rfl,hb1⟩)|(have q:=N3.out (by assumption);go_ret;exact ⟨by rw [q];rfl,hb1⟩)
 refine (same_row_any _ _ _ _ _ _ _ _ _ (hi1.old hb1) (hi2.old hb1)).mono ?_
 rintro e W2 ⟨rfl,hb2⟩
 rw [F4.out]
 have bX2:=bX.old hb2
 have bY2:=bY.old hb2
 have hb02:=below_step hb1 hb2
 have A2:=bX2.rule
 have B2:=bY2.rule
 clear A B bX bY hb1 hb2 hi1 hi2
 go_wp2_with fail
 any_goals first|(have q:=N4.out (Bool.eq_false_iff.2 (by assumption));go_ret;exact ⟨by rw [q];rfl,hb02⟩)|(have q:=N5.out (by assumption);go_ret;exact ⟨by rw [q];rfl,hb02⟩)
 have k0:¬c0=true:=by assumption
 have k1:¬c1=true:=by assumption
 have k2:¬c2=true:=by assumption
 have k3:¬c3=true:=by assumption
 have k4:c4=true:=by assumption
 have k5:c5=false:=by assumption
 have q0:op=op':=by rw [Bool.eq_false_iff.2 k0] at f0;simpa using f0
 have q1:side=side':=by rw [Bool.eq_false_iff.2 k1] at f1;simpa using f1
 have q2:place=place':=by rw [Bool.eq_false_iff.2 k2] at f2;simpa using f2
 have q3:target=target':=by rw [Bool.eq_false_iff.2 k3] at f3;simpa using f3
 have q4:ids=ids':=by have:=F4.out;rw [k4] at this;simpa using this
 have q5:pn=qn:=by
  rw [k5] at f5
  have:(pn:Int)=(qn:Int):=by simpa using f5
  omega
 obtain ⟨e1,e2⟩:=E6.out q5 q0 q1 q2 q3 q4
 have E1:=Lib.hid e1
 have E2:=Lib.hid e2
 subst q5
 have HL:=Lib.hid hp1.2.1
 have HM:=Lib.hid hp2.2.1
 have hsm:pn≤8796093021952:=hp1.2.2.2.2.1
 subst k4 k5
 clear k0 k1 k2 k3 f0 f1 f2 f3 f5 N0 N1 N2 N3 N4 N5 E6 F4 e1 e2 q0 q1 q2 q3 q4 A2 B2
 go_loopg [5] pn (SmA w X pn #[.int .i8 op,.int .i64 side,.int .i64 place,.int .i64 target,.slice ia inn ic,.slice pa pn pc] #[.int .i8 op',.int .i64 side',.int .i64 place',.int .i64 target',.slice ja jn jc,.slice qa pn qc] pairs pairs')
 case atStart=>exact ⟨0,by omega,rfl,rfl,bX2,bY2,hb02⟩
 case round=>
  clear bX2 bY2 hb02
  obtain ⟨k,hf,rfl,heq,bX,bY,hbw⟩:=hrel
  have HF:=Lib.hid hf
  have HQ:=Lib.hid heq
  clear hf heq
  have A:=bX.rule
  have B:=bY.rule
  by_cases hlt:k<pn
  ·have t0:decide ((k:Int)<(pn:Int))=true:=by simp;omega
   have hkl:k<pairs.length:=by have:=HL.out;simp at this;omega
   have hkm:k<pairs'.length:=by have:=HM.out;simp at this;omega
   obtain ⟨b1,o1,hr1,hl1,hc1⟩:=PairsAt.elemR (hp1.old hbw) k hkl
   obtain ⟨b2,o2,hr2,hl2,hc2⟩:=PairsAt.elemR (hp2.old hbw) k hkm
   dsimp only at hr1 hr2
   subst hr1 hr2
   have L1:=Lib.hid (show ∀W,Old wr.drew W→∀j (hj:j<pairs[k].cells.length),W.cell? ⟨b1,o1+k*2+j,none⟩=some pairs[k].cells[j] from fun W h j hj=>by
    rw [(below_step (Below.refl _ _).drew h).cell (show b1<wr.heap.size from hl1)];exact hc1 j hj)
   have L2:=Lib.hid (show ∀W,Old wr.drew W→∀j (hj:j<pairs'[k].cells.length),W.cell? ⟨b2,o2+k*2+j,none⟩=some pairs'[k].cells[j] from fun W h j hj=>by
    rw [(below_step (Below.refl _ _).drew h).cell (show b2<wr.heap.size from hl2)];exact hc2 j hj)
   have HX:=Lib.hid (show pairs.take (k+1)=pairs'.take (k+1)↔pairs[k]=pairs'[k] by
    rw [List.take_succ_eq_append_getElem hkl,List.take_succ_eq_append_getElem hkm,HQ.out];exact ⟨fun h=>(List.cons.inj (List.append_cancel_left h)).1,fun h=>by rw [h]⟩)
   have HD:=Lib.hid (show ¬pairs[k]=pairs'[k]→pairs≠pairs' from fun hne e=>hne (by subst e;rfl))
   have LA:∀W,Old wr.drew W→∀i,W.cell? ⟨X,i,none⟩= #[.int .i8 op,.int .i64 side,.int .i64 place,.int .i64 target,.slice ia inn ic,Value.slice (some ⟨b1,o1,none⟩) pn pc][i]? :=fun W hW=>(bX.drew.old hW).rule
   have LB:∀W,Old wr.drew W→∀i,W.cell? ⟨X+1,i,none⟩= #[.int .i8 op',.int .i64 side',.int .i64 place',.int .i64 target',.slice ja jn jc,Value.slice (some ⟨b2,o2,none⟩) pn qc][i]? :=fun W hW=>(bY.drew.old hW).rule
   clear hc1 hc2
   generalize pairs[k]=x at*
   generalize pairs'[k]=y at*
   by_cases hxy:x=y
   ·have HXe:=Lib.hid (HX.out.2 hxy)
    clear HX HD
    subst hxy
    go_upto_region 6 with fail
    refine wp_region_old (0::1::2::3::4::5::6::7::8::9::10::[]) (by kernel_rfl) (by kernel_rfl) (fun c a d v w h=>by cases d<;>exact h) ?_
    repeat (first|(refine lex_skip rfl (by rfl) ?_;simp only [Act.put,List.setIfInBounds_toArray,List.set])|(refine lex_quiet (v:= ?_) rfl rfl (by rfl) ?_ ?_;rotate_left;(intro W hW;go_simp);(try with_reducible rfl);simp only [Act.put,List.setIfInBounds_toArray,List.set]))
    refine lex_quiet (v:=vpairVal x) rfl rfl (by rfl) (fun W hW=>exec_load_as 157 vpairT (.tmp 59) rfl rfl rfl (L1.out W hW) rfl) ?_
    simp only [Act.put,List.setIfInBounds_toArray,List.set]
    repeat (first|(refine lex_skip rfl (by rfl) ?_;simp only [Act.put,List.setIfInBounds_toArray,List.set])|(refine lex_quiet (v:= ?_) rfl rfl (by rfl) ?_ ?_;rotate_left;(intro W hW;go_simp);(try with_reducible rfl);simp only [Act.put,List.setIfInBounds_toArray,List.set]))
    refine lex_quiet (v:=vpairVal x) rfl rfl (by rfl) (fun W hW=>exec_load_as 157 vpairT (.tmp 64) rfl rfl rfl (L2.out W hW) rfl) ?_
    simp only [Act.put,List.setIfInBounds_toArray,List.set]
    refine lex_quiet (v:= .bool false) rfl rfl (by rfl) (fun W hW=>exec_cmp .neq 157 (.tmp 60) (.tmp 65) rfl rfl rfl (by kernel_rfl) ((neq_vpair x x W).trans (by simp))) ?_
    simp only [Act.put,List.setIfInBounds_toArray,List.set]
    refine lex_nil ?_
    clear LA LB
    go_wp2_with fail
    go_roundg (gk-1)
    case measure=>have:=HF.out;omega
    case rel=>exact ⟨k+1,by have:=HF.out;omega,by go_num,HXe.out,bX.drew,bY.drew,hbw.drew⟩
   ·have hne:=Lib.hid (HD.out hxy)
    go_upto_region 6 with fail
    refine wp_region_old (0::1::2::3::4::5::6::7::8::9::10::[]) (by kernel_rfl) (by kernel_rfl) (fun c a d v w h=>by cases d<;>exact h) ?_
    repeat (first|(refine lex_skip rfl (by rfl) ?_;simp only [Act.put,List.setIfInBounds_toArray,List.set])|(refine lex_quiet (v:= ?_) rfl rfl (by rfl) ?_ ?_;rotate_left;(intro W hW;go_simp);(try with_reducible rfl);simp only [Act.put,List.setIfInBounds_toArray,List.set]))
    refine lex_quiet (v:=vpairVal x) rfl rfl (by rfl) (fun W hW=>exec_load_as 157 vpairT (.tmp 59) rfl rfl rfl (L1.out W hW) rfl) ?_
    simp only [Act.put,List.setIfInBounds_toArray,List.set]
    repeat (first|(refine lex_skip rfl (by rfl) ?_;simp only [Act.put,List.setIfInBounds_toArray,List.set])|(refine lex_quiet (v:= ?_) rfl rfl (by rfl) ?_ ?_;rotate_left;(intro W hW;go_simp);(try with_reducible rfl);simp only [Act.put,List.setIfInBounds_toArray,List.set]))
    refine lex_quiet (v:=vpairVal y) rfl rfl (by rfl) (fun W hW=>exec_load_as 157 vpairT (.tmp 64) rfl rfl rfl (L2.out W hW) rfl) ?_
    simp only [Act.put,List.setIfInBounds_toArray,List.set]
    refine lex_quiet (v:= .bool true) rfl rfl (by rfl) (fun W hW=>exec_cmp .neq 157 (.tmp 60) (.tmp 65) rfl rfl rfl (by kernel_rfl) ((neq_vpair x y W).trans (by simp [hxy]))) ?_
    simp only [Act.put,List.setIfInBounds_toArray,List.set]
    refine lex_nil ?_
    clear LA LB
    go_wp2_with fail
    go_ret
    exact ⟨by rw [E2.out hne.out];rfl,hbw.drew⟩
  ·have t0:decide ((k:Int)<(pn:Int))=false:=by simp;omega
   have he:=Lib.hid (show pairs=pairs' by
    have:=HQ.out
    have h1:=HL.out
    have h2:=HM.out
    simp only at h1 h2
    rwa [List.take_of_length_le (by omega),List.take_of_length_le (by omega)] at this)
   go_wp2_with fail
   go_ret
   exact ⟨by rw [E1.out he.out];rfl,hbw⟩
set_option maxHeartbeats 8000000 in
theorem rsame_any (p q:DeedP) (h g:DeedH) (w:World) (hp:DeedAt w p h) (hq:DeedAt w q g):
  Calls Tryz.prog 34 #[deedVal p h,deedVal q g] w fun e w'=>e= .returned (.bool (sameB p q))∧Below w.heap.size w w':=by
 obtain ⟨R,hR⟩:∃R,R=sameB p q:=⟨_,rfl⟩
 rw [←hR]
 rw [sameB_eq] at hR
 have mk:∀(c:Bool) (P:Prop) [Decidable P],decide P=c→(p=q→P)→(c=false→R=false):=fun c P _ h1 h2 h3=>by
  rw [hR]
  refine decide_eq_false fun e=> ?_
  rw [h3] at h1
  exact absurd (h2 e) (of_decide_eq_false h1)
 have e0:∃c,(p.kind==q.kind)=c∧(c=false→R=false):=⟨_,rfl,mk _ (p.kind=q.kind) rfl fun e=>by rw [e]⟩
 have e1:∃c,(p.game==q.game)=c∧(c=false→R=false):=⟨_,rfl,mk _ (p.game=q.game) rfl fun e=>by rw [e]⟩
 have e2:∃c,(p.table==q.table)=c∧(c=false→R=false):=⟨_,rfl,mk _ (p.table=q.table) rfl fun e=>by rw [e]⟩
 have e3:∃c,(p.fmt.toList==q.fmt.toList)=c∧(c=false→R=false):=⟨_,rfl,mk _ (p.fmt=q.fmt) (str_beq _ _).symm fun e=>by rw [e]⟩
 have e4:∃c,(p.n0.toList==q.n0.toList&&p.n1.toList==q.n1.toList)=c∧(c=false→R=false):=⟨_,rfl,mk _ (p.n0=q.n0∧p.n1=q.n1) (by rw [str_beq,str_beq,Bool.decide_and]) fun e=>by rw [e];exact ⟨rfl,rfl⟩⟩
 have e5:∃c,decide (p.d0=q.d0)=c∧(c=false→R=false):=⟨_,rfl,mk _ (p.d0=q.d0) rfl fun e=>by rw [e]⟩
 have e6:∃c,decide (p.d1=q.d1)=c∧(c=false→R=false):=⟨_,rfl,mk _ (p.d1=q.d1) rfl fun e=>by rw [e]⟩
 have e7:∃c,decide (p.dr=q.dr)=c∧(c=false→R=false):=⟨_,rfl,mk _ (p.dr=q.dr) rfl fun e=>by rw [e]⟩
 have hall:p.kind=q.kind→p.game=q.game→p.table=q.table→p.fmt=q.fmt→p.n0=q.n0∧p.n1=q.n1→p.d0=q.d0→p.d1=q.d1→p.dr=q.dr→R=decide (p.act=q.act):=by
  intro h0 h1 h2 h3 h4 h5 h6 h7
  rw [hR]
  obtain ⟨a0,a1,a2,a3,a4,a5,a6,a7,a8,a9⟩:=p
  obtain ⟨b0,b1,b2,b3,b4,b5,b6,b7,b8,b9⟩:=q
  obtain ⟨h4,h4'⟩:=h4
  dsimp only at h0 h1 h2 h3 h4 h4' h5 h6 h7⊢
  subst h0 h1 h2 h3 h4 h4' h5 h6 h7
  rw [decide_eq_decide]
  simp
 clear hR mk
 obtain ⟨c0,f0,n0⟩:=e0
 obtain ⟨c1,f1,n1⟩:=e1
 obtain ⟨c2,f2,n2⟩:=e2
 obtain ⟨c3,f3,n3⟩:=e3
 obtain ⟨c4,f4,n4⟩:=e4
 obtain ⟨c5,f5,n5⟩:=e5
 obtain ⟨c6,f6,n6⟩:=e6
 obtain ⟨c7,f7,n7⟩:=e7
 have tw:=fun W=>eq_two p.n0 p.n1 q.n0 q.n1 W
 simp only [f4] at tw
 have N0:=Lib.hid n0
 have N1:=Lib.hid n1
 have N2:=Lib.hid n2
 have N3:=Lib.hid n3
 have N4:=Lib.hid n4
 have N5:=Lib.hid n5
 have N6:=Lib.hid n6
 have N7:=Lib.hid n7
 have F4:=Lib.hid f4
 have F5:=Lib.hid f5
 have F6:=Lib.hid f6
 have F7:=Lib.hid f7
 have HALL:=Lib.hid hall
 clear n0 n1 n2 n3 n4 n5 n6 n7 f4 f5 f6 f7 hall
 unfold deedVal
 go_enter Tryz.func34,Tryz.ntmps34
 go_wp2_with fail
 any_goals first|(have q:=N0.out (Bool.eq_false_iff.2 (by assumption));go_ret;exact ⟨by rw [q];rfl,(by (try unfold Kept);repeat (first|assumption|exact Below.refl _ _|exact below_undrew (Below.refl _ _)|exact Below.mono (by assumption) (by first|(simp;done)|(simp;omega)|omega)|refine below_setRow ?_ (by first|(simp;done)|(simp;omega)|omega) _|refine Below.setCell ?_ (by first|(simp;done)|(simp;omega)|omega) _|refine Below.alloc ?_ (by first|(simp;done)|(simp;omega)|omega) _|refine below_drewN ?_ _|refine Below.drew ?_|refine below_undrew ?_|refine below_step ?_ (by assumption)))⟩)|(have q:=N1.out (Bool.eq_false_iff.2 (by assumption));go_ret;exact ⟨by rw [q];rfl,(by (try unfold Kept);repeat (first|assumption|exact Below.refl _ _|exact below_undrew (Below.refl _ _)|exact Below.mono (by assumption) (by first|(simp;done)|(simp;omega)|omega)|refine below_setRow ?_ (by first|(simp;done)|(simp;omega)|omega) _|refine Below.setCell ?_ (by first|(simp;done)|(simp;omega)|omega) _|refine Below.alloc ?_ (by first|(simp;done)|(simp;omega)|omega) _|refine below_drewN ?_ _|refine Below.drew ?_|refine below_undrew ?_|refine below_step ?_ (by assumption)))⟩)|(have q:=N2.out (Bool.eq_false_iff.2 (by assumption));go_ret;exact ⟨by rw [q];rfl,(by (try unfold Kept);repeat (first|assumption|exact Below.refl _ _|exact below_undrew (Below.refl _ _)|exact Below.mono (by assumption) (by first|(simp;done)|(simp;omega)|omega)|refine below_setRow ?_ (by first|(simp;done)|(simp;omega)|omega) _|refine Below.setCell ?_ (by first|(simp;done)|(simp;omega)|omega) _|refine Below.alloc ?_ (by first|(simp;done)|(simp;omega)|omega) _|refine below_drewN ?_ _|refine Below.drew ?_|refine below_undrew ?_|refine below_step ?_ (by assumption)))⟩)|(have q:=N3.out (Bool.eq_false_iff.2 (by assumption));go_ret;exact ⟨by rw [q];rfl,(by (try unfold Kept);repeat (first|assumption|exact Below.refl _ _|exact below_undrew (Below.refl _ _)|exact Below.mono (by assumption) (by first|(simp;done)|(simp;omega)|omega)|refine below_setRow ?_ (by first|(simp;done)|(simp;omega)|omega) _|refine Below.setCell ?_ (by first|(simp;done)|(simp;omega)|omega) _|refine Below.alloc ?_ (by first|(simp;done)|(simp;omega)|omega) _|refine below_drewN ?_ _|refine Below.drew ?_|refine below_undrew ?_|refine below_step ?_ (by assumption)))⟩)|(have q:=N4.out (Bool.eq_false_iff.2 (by assumption));go_ret;exact ⟨by rw [q];rfl,(by (try unfold Kept);repeat (first|assumption|exact Below.refl _ _|exact below_undrew (Below.refl _ _)|exact Below.mono (by assumption) (by first|(simp;done)|(simp;omega)|omega)|refine below_setRow ?_ (by first|(simp;done)|(simp;omega)|omega) _|refine Below.setCell ?_ (by first|(simp;done)|(simp;omega)|omega) _|refine Below.alloc ?_ (by first|(simp;done)|(simp;omega)|omega) _|refine below_drewN ?_ _|refine Below.drew ?_|refine below_undrew ?_|refine below_step ?_ (by assumption)))⟩)|(have q:=N5.out (Bool.eq_false_iff.2 (by assumption));go_ret;exact ⟨by rw [q];rfl,(by (try unfold Kept);repeat (first|assumption|exact Below.refl _ _|exact below_undrew (Below.refl _ _)|exact Below.mono (by assumption) (by first|(simp;done)|(simp;omega)|omega)|refine below_setRow ?_ (by first|(simp;done)|(simp;omega)|omega) _|refine Below.setCell ?_ (by first|(simp;done)|(simp;omega)|omega) _|refine Below.alloc ?_ (by first|(simp;done)|(simp;omega)|omega) _|refine below_drewN ?_ _|refine Below.drew ?_|refine below_undrew ?_|refine below_step ?_ (by assumption)))⟩)|(have q:=N6.out (Bool.eq_false_iff.2 (by assumption));go_ret;exact ⟨by rw [q];rfl,(by (try unfold Kept);repeat (first|assumption|exact Below.refl _ _|exact below_undrew (Below.refl _ _)|exact Below.mono (by assumption) (by first|(simp;done)|(simp;omega)|omega)|refine below_setRow ?_ (by first|(simp;done)|(simp;omega)|omega) _|refine Below.setCell ?_ (by first|(simp;done)|(simp;omega)|omega) _|refine Below.alloc ?_ (by first|(simp;done)|(simp;omega)|omega) _|refine below_drewN ?_ _|refine Below.drew ?_|refine below_undrew ?_|refine below_step ?_ (by assumption)))⟩)|(have q:=N7.out (Bool.eq_false_iff.2 (by assumption));go_ret;exact ⟨by rw [q];rfl,(by (try unfold Kept);repeat (first|assumption|exact Below.refl _ _|exact below_undrew (Below.refl _ _)|exact Below.mono (by assumption) (by first|(simp;done)|(simp;omega)|omega)|refine below_setRow ?_ (by first|(simp;done)|(simp;omega)|omega) _|refine Below.setCell ?_ (by first|(simp;done)|(simp;omega)|omega) _|refine Below.alloc ?_ (by first|(simp;done)|(simp;omega)|omega) _|refine below_drewN ?_ _|refine Below.drew ?_|refine below_undrew ?_|refine below_step ?_ (by assumption)))⟩)
 refine (same_row_any _ _ _ _ _ _ _ _ _ (hp.d0.old (by (try unfold Kept);repeat (first|assumption|exact Below.refl _ _|exact below_undrew (Below.refl _ _)|exact Below.mono (by assumption) (by first|(simp;done)|(simp;omega)|omega)|refine below_setRow ?_ (by first|(simp;done)|(simp;omega)|omega) _|refine Below.setCell ?_ (by first|(simp;done)|(simp;omega)|omega) _|refine Below.alloc ?_ (by first|(simp;done)|(simp;omega)|omega) _|refine below_drewN ?_ _|refine Below.drew ?_|refine below_undrew ?_|refine below_step ?_ (by assumption)))) (hq.d0.old (by (try unfold Kept);repeat (first|assumption|exact Below.refl _ _|exact below_undrew (Below.refl _ _)|exact Below.mono (by assumption) (by first|(simp;done)|(simp;omega)|omega)|refine below_setRow ?_ (by first|(simp;done)|(simp;omega)|omega) _|refine Below.setCell ?_ (by first|(simp;done)|(simp;omega)|omega) _|refine Below.alloc ?_ (by first|(simp;done)|(simp;omega)|omega) _|refine below_drewN ?_ _|refine Below.drew ?_|refine below_undrew ?_|refine below_step ?_ (by assumption))))).mono ?_
 rintro e W2 ⟨rfl,hb2⟩
 rw [F5.out]
 have bX:=(Blk.new2 _ _ _ _).old hb2
 have bY:=(Blk.new2' _ _ _ _).old hb2
 have hbw:Below w.heap.size w W2:=by (try unfold Kept);repeat (first|assumption|exact Below.refl _ _|exact below_undrew (Below.refl _ _)|exact Below.mono (by assumption) (by first|(simp;done)|(simp;omega)|omega)|refine below_setRow ?_ (by first|(simp;done)|(simp;omega)|omega) _|refine Below.setCell ?_ (by first|(simp;done)|(simp;omega)|omega) _|refine Below.alloc ?_ (by first|(simp;done)|(simp;omega)|omega) _|refine below_drewN ?_ _|refine Below.drew ?_|refine below_undrew ?_|refine below_step ?_ (by assumption))
 obtain ⟨X,hX⟩:∃X,X=w.heap.size:=⟨_,rfl⟩
 rw [←hX] at bX bY⊢
 clear hb2 hX
 have A:=bX.rule
 have B:=bY.rule
 go_wp2_with fail
 any_goals first|(have q:=N0.out (Bool.eq_false_iff.2 (by assumption));go_ret;exact ⟨by rw [q];rfl,hbw⟩)|(have q:=N1.out (Bool.eq_false_iff.2 (by assumption));go_ret;exact ⟨by rw [q];rfl,hbw⟩)|(have q:=N2.out (Bool.eq_false_iff.2 (by assumption));go_ret;exact ⟨by rw [q];rfl,hbw⟩)|(have q:=N3.out (Bool.eq_false_iff.2 (by assumption));go_ret;exact ⟨by rw [q];rfl,hbw⟩)|(have q:=N4.out (Bool.eq_false_iff.2 (by assumption));go_ret;exact ⟨by rw [q];rfl,hbw⟩)|(have q:=N5.out (Bool.eq_false_iff.2 (by assumption));go_ret;exact ⟨by rw [q];rfl,hbw⟩)|(have q:=N6.out (Bool.eq_false_iff.2 (by assumption));go_ret;exact ⟨by rw [q];rfl,hbw⟩)|(have q:=N7.out (Bool.eq_false_iff.2 (by assumption));go_ret;exact ⟨by rw [q];rfl,hbw⟩)
 refine (same_row_any _ _ _ _ _ _ _ _ _ (hp.d1.old hbw) (hq.d1.old hbw)).mono ?_
 rintro e W3 ⟨rfl,hb3⟩
 rw [F6.out]
 replace bX:=bX.old hb3
 replace bY:=bY.old hb3
 replace hbw:=below_step hbw hb3
 clear A B hb3
 have A:=bX.rule
 have B:=bY.rule
 go_wp2_with fail
 any_goals first|(have q:=N0.out (Bool.eq_false_iff.2 (by assumption));go_ret;exact ⟨by rw [q];rfl,hbw⟩)|(have q:=N1.out (Bool.eq_false_iff.2 (by assumption));go_ret;exact ⟨by rw [q];rfl,hbw⟩)|(have q:=N2.out (Bool.eq_false_iff.2 (by assumption));go_ret;exact ⟨by rw [q];rfl,hbw⟩)|(have q:=N3.out (Bool.eq_false_iff.2 (by assumption));go_ret;exact ⟨by rw [q];rfl,hbw⟩)|(have q:=N4.out (Bool.eq_false_iff.2 (by assumption));go_ret;exact ⟨by rw [q];rfl,hbw⟩)|(have q:=N5.out (Bool.eq_false_iff.2 (by assumption));go_ret;exact ⟨by rw [q];rfl,hbw⟩)|(have q:=N6.out (Bool.eq_false_iff.2 (by assumption));go_ret;exact ⟨by rw [q];rfl,hbw⟩)|(have q:=N7.out (Bool.eq_false_iff.2 (by assumption));go_ret;exact ⟨by rw [q];rfl,hbw⟩)
 refine (same_row_any _ _ _ _ _ _ _ _ _ (hp.dr.old hbw) (hq.dr.old hbw)).mono ?_
 rintro e W4 ⟨rfl,hb4⟩
 rw [F7.out]
 replace bX:=bX.old hb4
 replace bY:=bY.old hb4
 replace hbw:=below_step hbw hb4
 clear A B hb4
 have A:=bX.rule
 have B:=bY.rule
 go_wp2_with fail
 any_goals first|(have q:=N0.out (Bool.eq_false_iff.2 (by assumption));go_ret;exact ⟨by rw [q];rfl,hbw⟩)|(have q:=N1.out (Bool.eq_false_iff.2 (by assumption));go_ret;exact ⟨by rw [q];rfl,hbw⟩)|(have q:=N2.out (Bool.eq_false_iff.2 (by assumption));go_ret;exact ⟨by rw [q];rfl,hbw⟩)|(have q:=N3.out (Bool.eq_false_iff.2 (by assumption));go_ret;exact ⟨by rw [q];rfl,hbw⟩)|(have q:=N4.out (Bool.eq_false_iff.2 (by assumption));go_ret;exact ⟨by rw [q];rfl,hbw⟩)|(have q:=N5.out (Bool.eq_false_iff.2 (by assumption));go_ret;exact ⟨by rw [q];rfl,hbw⟩)|(have q:=N6.out (Bool.eq_false_iff.2 (by assumption));go_ret;exact ⟨by rw [q];rfl,hbw⟩)|(have q:=N7.out (Bool.eq_false_iff.2 (by assumption));go_ret;exact ⟨by rw [q];rfl,hbw⟩)
 refine (rsameA_any p.act q.act h.act g.act _ (hp.act.old hbw) (hq.act.old hbw)).mono ?_
 rintro e W5 ⟨rfl,hb5⟩
 replace hbw:=below_step hbw hb5
 have k0:c0=true:=by assumption
 have k1:c1=true:=by assumption
 have k2:c2=true:=by assumption
 have k3:c3=true:=by assumption
 have k4:c4=true:=by assumption
 have k5:c5=true:=by assumption
 have k6:c6=true:=by assumption
 have k7:c7=true:=by assumption
 have q4:p.n0=q.n0∧p.n1=q.n1:=by
  have:=F4.out
  rw [k4,str_beq,str_beq] at this
  simpa using this
 have hres:=HALL.out (by rw [k0] at f0;simpa using f0) (by rw [k1] at f1;simpa using f1) (by rw [k2] at f2;simpa using f2) (by rw [k3,str_beq] at f3;simpa using f3) q4 (by have:=F5.out;rw [k5] at this;simpa using this) (by have:=F6.out;rw [k6] at this;simpa using this) (by have:=F7.out;rw [k7] at this;simpa using this)
 rw [←hres]
 have HRES:=Lib.hid hres
 clear hres k0 k1 k2 k3 k4 k5 k6 k7 q4 f0 f1 f2 f3 A B
 go_wp2_with fail
 go_ret
 exact ⟨rfl,hbw⟩
end
end Go.Proofs.YtioigihakjlopaaGreat
