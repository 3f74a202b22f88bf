/- Texts put together and cut to what is used: ImRThing. -/
import Derived.Test.YtioigihakjlopaaGreatVK10
namespace Go.Proofs.YtioigihakjlopaaGreat
set_option linter.unusedVariables false
set_option linter.unusedSimpArgs false
section
open Go.RowKit
set_option maxRecDepth 20000
section
variable {α:Type} {B:Nat} {w w':World} {q:RC} {r:Rd α} {f:α→Array Value} {xb:Nat} {t:TypeId} {e:Ending}
theorem RRes.err (h:RRes B w q r f xb t e w') {p:Nat} (hr:r= .error p):e= .panicked (wrongP p)∧RBad w q w' xb t:=by subst hr;exact h
theorem RRes.ok (h:RRes B w q r f xb t e w') {v:α} {a:Nat} (hr:r= .ok (v,a)):e= .returned (.tuple #[])∧RGot B w q w' (q.to a) xb (f v) t:=by subst hr;exact h
end
theorem RGot.pre {B:Nat} {w0 w w':World} {q q':RC} {xb:Nat} {cs:Array Value} {t:TypeId} (h:RGot B w q w' q' xb cs t) (hb:Below w0.heap.size w0 w):RGot B w0 q w' q' xb cs t:=
 ⟨h.at',(Turn.of_below (F:=fun x=>x=q.c∨x=xb) hb).trans h.turn (fun _ hk=> .inl hk),h.blk⟩
theorem rd2_err {α:Type} (bs:List UInt8) (a:Nat) (K:Int→Int→Nat→Rd α) (h:bs.length<a+8*2):(thn (rdNum bs a) fun i a=>thn (rdNum bs a) fun c a=>K i c a)= .error bs.length:=by
 unfold rdNum
 by_cases h1:bs.length<a+8
 ·rw [if_pos h1];rfl
 ·rw [if_neg h1]
  dsimp only [thn]
  rw [if_pos (by omega)]
theorem rd2_ok {α:Type} (bs:List UInt8) (a:Nat) (K:Int→Int→Nat→Rd α) (h:a+8*2≤bs.length):(thn (rdNum bs a) fun i a=>thn (rdNum bs a) fun c a=>K i c a)=K (numAt bs a) (numAt bs (a+8)) (a+8*2):=by
 unfold rdNum
 rw [if_neg (by omega)]
 dsimp only [thn]
 rw [if_neg (by omega)]
 rfl
theorem rd3_err {α:Type} (bs:List UInt8) (a:Nat) (K:Int→Int→Int→Nat→Rd α) (h:bs.length<a+8*3):(thn (rdNum bs a) fun i a=>thn (rdNum bs a) fun c a=>thn (rdNum bs a) fun d a=>K i c d a)= .error bs.length:=by
 by_cases h1:bs.length<a+8
 ·unfold rdNum
  rw [if_pos h1];rfl
 ·have:rdNum bs a= .ok (numAt bs a,a+8):=by unfold rdNum;rw [if_neg h1];rfl
  rw [this]
  dsimp only [thn]
  exact rd2_err bs (a+8) (fun c d a'=>K _ c d a') (by omega)
theorem rd3_ok {α:Type} (bs:List UInt8) (a:Nat) (K:Int→Int→Int→Nat→Rd α) (h:a+8*3≤bs.length):(thn (rdNum bs a) fun i a=>thn (rdNum bs a) fun c a=>thn (rdNum bs a) fun d a=>K i c d a)=K (numAt bs a) (numAt bs (a+8)) (numAt bs (a+16)) (a+8*3):=by
 have:rdNum bs a= .ok (numAt bs a,a+8):=by unfold rdNum;rw [if_neg (by omega)];rfl
 rw [this]
 dsimp only [thn]
 exact rd2_ok bs (a+8) (fun c d a'=>K _ c d a') (by omega)
theorem wf64_toInt (a:BitVec 64):wf64 a.toInt:=by
 have h1:=BitVec.toInt_lt (x:=a)
 have h2:=BitVec.le_toInt (x:=a)
 simp only [wf64,Lit.wf,IntKind.min,IntKind.max,IntKind.signed,IntKind.bits]
 simp at h1 h2⊢
 omega
theorem wf64_numAt (bs:List UInt8) (a:Nat):wf64 (numAt bs a):=wf64_toInt _
theorem rdPair_wf {bs:List UInt8} {a:Nat} {u:PairL} {b:Nat} (h:rdPair bs a= .ok (u,b)):u.wf:=by
 unfold rdPair at h
 by_cases hm:a+8*2≤bs.length
 ·rw [rd2_ok bs a (fun i c a=> .ok ((⟨i,c⟩:PairL),a)) hm] at h
  cases h
  exact ⟨wf64_numAt _ _,wf64_numAt _ _⟩
 ·rw [rd2_err bs a (fun i c a=> .ok ((⟨i,c⟩:PairL),a)) (by omega)] at h
  cases h
set_option maxHeartbeats 2000000 in
theorem pair_r (w:World) (B:Nat) (q:RC) (xb i:Nat) (cs:Array Value) (t:TypeId) (u0:PairL) (hq:RAt w B q) (hB:B≤w.heap.size) (hx:Blk w xb cs t) (hi:HasRow cs i u0.cells) (hxB:B≤xb) (hxc:xb≠q.c):
  Calls Tryz.prog 150 #[.pointer (some ⟨q.c,0,none⟩),.pointer (some ⟨xb,i,none⟩)] w (RRes B w q (rdPair q.bs q.at_) (fun u=>putRow cs i u.cells) xb t):=by
 have hi3:∀j,j<2→∃v,cs[i+j]? =some (.int .i64 v):=fun j hj=>by
  have:=hi j (by show j<2;omega)
  rcases (show j=0∨j=1 by omega) with rfl|rfl
  ·exact ⟨_,this⟩
  ·exact ⟨_,this⟩
 have hxcl:=hq.blk.lt
 have hxl:=hx.lt
 go_enter Tryz.func150,Tryz.ntmps150
 go_wp2_with fail
 refine wp_region_treeR false (KeepAt (fun _=>False)) (KeepAt.refl _) (fun _ _ _ h1 h2=>KeepAt.trans h1 h2) (.step 0 (.step 1 (.step 2 (.step 3 (.step 4 (.step 5 (.step 6 (.step 7 (.step 8 .done))))))))) (by kernel_rfl) (by kernel_rfl) (fun c a d v w h=>by cases d<;>exact h) ?_
 repeat (first|(refine tree_skip rfl (by rfl) ?_;simp only [Act.put,List.setIfInBounds_toArray,List.set])|(refine tree_quiet (v:= ?_) rfl rfl (by rfl) ?_ ?_;rotate_left;(intro W hW;go_simp);(try with_reducible rfl);simp only [Act.put,List.setIfInBounds_toArray,List.set]))
 refine tree_loud rfl rfl (by rfl) (fun K hK=> ?_);go_wp2_with fail
 refine hK _ _ ⟨by simp,fun _ h=>h.elim⟩ ?_
 clear hK K
 repeat (first|(refine tree_skip rfl (by rfl) ?_;simp only [Act.put,List.setIfInBounds_toArray,List.set])|(refine tree_quiet (v:= ?_) rfl rfl (by rfl) ?_ ?_;rotate_left;(intro W hW;go_simp);(try with_reducible rfl);simp only [Act.put,List.setIfInBounds_toArray,List.set]))
 refine tree_loud rfl rfl (by rfl) (fun K hK=> ?_);go_wp2_with fail
 have hb1:Below w.heap.size w (w.alloc (.cells #[.pointer (some ⟨xb,i,none⟩),.pointer (some ⟨xb,i+1,none⟩)] 209)).drew:=by (try unfold Kept);repeat (first|assumption|exact Below.refl _ _|exact below_undrew (Below.refl _ _)|exact Below.mono (by assumption) (by first|(simp;done)|(simp;omega)|omega)|refine below_setRow ?_ (by first|(simp;done)|(simp;omega)|omega) _|refine Below.setCell ?_ (by first|(simp;done)|(simp;omega)|omega) _|refine Below.alloc ?_ (by first|(simp;done)|(simp;omega)|omega) _|refine below_drewN ?_ _|refine Below.drew ?_|refine below_undrew ?_|refine below_step ?_ (by assumption))
 have cb:=nums_r _ B q w.heap.size 2 xb i cs _ (hq.old hb1 hB) (Nat.le_trans hB hb1.size) (Blk.new w #[.pointer (some ⟨xb,i,none⟩),.pointer (some ⟨xb,i+1,none⟩)] 209).drew (Nat.ne_of_gt hq.blk.lt) (Nat.ne_of_gt hx.lt) (hx.old hb1) hi3 hxB hxc (by omega)
 refine cb.mono ?_
 clear cb
 rintro e w2 ⟨h1,h2⟩
 by_cases hmore:q.at_+8*2≤q.bs.length
 ·obtain ⟨rfl,hg⟩:=h2 hmore
  have hz2:=hg.turn.size
  replace hg:=hg.pre hb1
  have HR:=Lib.hid (show rdPair q.bs q.at_= .ok (⟨numAt q.bs q.at_,numAt q.bs (q.at_+8)⟩,q.at_+8*2) from rd2_ok q.bs q.at_ (fun i c a=> .ok ((⟨i,c⟩:PairL),a)) hmore)
  clear h1 h2
  go_wp2_with fail
  refine hK _ _ ⟨by simpa using hz2,fun _ h=>h.elim⟩ ?_
  clear hK K
  refine tree_done ?_
  go_wp2_with fail
  refine bodyPost_end (v:= .tuple #[]) (results_none rfl _ _ _) rfl ?_
  rw [HR.out]
  exact ⟨rfl,hg⟩
 ·obtain ⟨rfl,hb2⟩:=h1 (by omega)
  have HR:=Lib.hid (show rdPair q.bs q.at_= .error q.bs.length by unfold rdPair;exact rd2_err q.bs q.at_ _ (by omega))
  have hb3:=RBad.pre hb1 hb2
  clear h1 h2 hK
  go_wp2_with fail
  refine ⟨rfl,?_⟩
  rw [HR.out]
  exact ⟨rfl,hb3⟩
end
end Go.Proofs.YtioigihakjlopaaGreat
