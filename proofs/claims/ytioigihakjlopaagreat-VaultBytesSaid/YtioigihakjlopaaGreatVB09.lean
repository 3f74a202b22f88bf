/- Texts put together and cut to what is used: VSlices, ImRState, VCopied. -/
import Derived.Test.YtioigihakjlopaaGreatVB08
import Derived.Lib.SliceRun
namespace Go.Proofs.YtioigihakjlopaaGreat
set_option linter.unusedVariables false
set_option linter.unusedSimpArgs false
section
open Go.RowKit
set_option maxRecDepth 20000
theorem vints_one (l:List Int):∀u∈l.map (Value.int .i64),u.oneCell'=true:=fun u hu=>by
 obtain ⟨x,_,rfl⟩:=List.mem_map.1 hu;rfl
theorem vpairs_one (l:List PairL):∀u∈l.flatMap PairL.cells,u.oneCell'=true:=fun u hu=>by
 obtain ⟨x,_,hx⟩:=List.mem_flatMap.1 hu
 unfold PairL.cells at hx
 simp only [List.mem_cons,List.not_mem_nil,or_false] at hx
 rcases hx with rfl|rfl<;>rfl
theorem vclone_ints (a:Option Addr) (n c:Nat) (l:List Int) (w:World) (hl:Ints w ⟨a,n,c⟩ l):
  Calls Tryz.prog 119 #[.slice a n c] w fun e w'=>∃a' c',e= .returned (.slice a' n c')∧Own w' w.heap.size 3 1 a' n c' (l.map (Value.int .i64))∧Below w.heap.size w w':=by
 obtain ⟨hr,hlen,hc,hcm,hsm,hwf⟩:=hl
 dsimp only at hr hlen hc hcm hsm
 have HL:=Lib.hid hlen
 have hel:=(show (l.map (Value.int .i64)).length=l.length*1 by rw [List.length_map,Nat.mul_one])
 clear hlen
 have q:∀(w:World) (a:Option Addr) (n c n' c':Nat),(binOp .eql 34 (.slice a n c) (.slice none n' c')).run Tryz.prog w= .ok (.bool a.isNone) w:=fun w a n c n' c'=>Lib.run_eql_slice_nil w _ _ a n c n' c' Tryz.underlying34
 cases a with
 |none=>
  have hl0:l=[]:=by
   refine List.eq_nil_of_length_eq_zero (Nat.eq_zero_of_not_pos fun h=> ?_)
   obtain ⟨_,_,e,_⟩:=hr 0 (by rw [hel];omega)
   cases e
  subst hl0
  have h0:n=0:=HL.out.symm
  go_enter Tryz.func119,Tryz.ntmps119
  go_wp2_with fail
  go_ret
  exact ⟨none,0,by rw [h0];rfl,by rw [h0];exact Own.nil _ _ _ _,Below.refl _ _⟩
 |some x=>
  go_enter Tryz.func119,Tryz.ntmps119
  have hown:Own (w.alloc (.cells #[] 3)) w.heap.size 3 1 (some ⟨w.heap.size,0,none⟩) 0 0 []:=by
   refine ⟨by simp,.inr ⟨w.heap.size,0,#[],rfl,Nat.le_refl _,heap_alloc_new w _,Nat.le_refl _,by unfold maxLen;omega,by simp,by simp⟩⟩
  go_wp2_with (at_builtin;refine wpList_append_row rfl _ _ 34 rfl intsT2 rfl hown rfl (hr.alloc _) (by rw [hel,HL.out]) (vints_one _) (by unfold maxLen;omega) (by omega) (by simp) ?_)
  intro a1 c1 w1 hown1 hg1
  go_wp2_with fail
  go_ret
  refine ⟨a1,c1,?_,?_,hown.grown ((Below.refl _ _).alloc (Nat.le_refl _) _) (Nat.le_refl _) hg1 (by simp)⟩
  ·first|rfl|simp
  ·simpa using hown1
theorem vclone_pairs (a:Option Addr) (n c:Nat) (l:List PairL) (w:World) (hl:Pairs w ⟨a,n,c⟩ l):
  Calls Tryz.prog 120 #[.slice a n c] w fun e w'=>∃a' c',e= .returned (.slice a' n c')∧Own w' w.heap.size 157 2 a' n c' (l.flatMap PairL.cells)∧Below w.heap.size w w':=by
 obtain ⟨hr,hlen,hc,hcm,hsm,hwf⟩:=hl
 dsimp only at hr hlen hc hcm hsm
 have HL:=Lib.hid hlen
 have hel:=(pairs_length2 l)
 clear hlen
 have q:∀(w:World) (a:Option Addr) (n c n' c':Nat),(binOp .eql 36 (.slice a n c) (.slice none n' c')).run Tryz.prog w= .ok (.bool a.isNone) w:=fun w a n c n' c'=>Lib.run_eql_slice_nil w _ _ a n c n' c' Tryz.underlying36
 cases a with
 |none=>
  have hl0:l=[]:=by
   refine List.eq_nil_of_length_eq_zero (Nat.eq_zero_of_not_pos fun h=> ?_)
   obtain ⟨_,_,e,_⟩:=hr 0 (by rw [hel];omega)
   cases e
  subst hl0
  have h0:n=0:=HL.out.symm
  go_enter Tryz.func120,Tryz.ntmps120
  go_wp2_with fail
  go_ret
  exact ⟨none,0,by rw [h0];rfl,by rw [h0];exact Own.nil _ _ _ _,Below.refl _ _⟩
 |some x=>
  go_enter Tryz.func120,Tryz.ntmps120
  have hown:Own (w.alloc (.cells #[] 157)) w.heap.size 157 2 (some ⟨w.heap.size,0,none⟩) 0 0 []:=by
   refine ⟨by simp,.inr ⟨w.heap.size,0,#[],rfl,Nat.le_refl _,heap_alloc_new w _,Nat.le_refl _,by unfold maxLen;omega,by simp,by simp⟩⟩
  go_wp2_with (at_builtin;refine wpList_append_row rfl _ _ 36 rfl pairsT2 rfl hown rfl (hr.alloc _) (by rw [hel,HL.out]) (vpairs_one _) (by unfold maxLen;omega) (by omega) (by simp) ?_)
  intro a1 c1 w1 hown1 hg1
  go_wp2_with fail
  go_ret
  refine ⟨a1,c1,?_,?_,hown.grown ((Below.refl _ _).alloc (Nat.le_refl _) _) (Nat.le_refl _) hg1 (by simp)⟩
  ·first|rfl|simp
  ·simpa using hown1
def EqR (w:World) (f:Nat) (i:Value) (P:Nat→Prop) (n:Nat) (wr:World):Prop:=∃k:Nat,k+f=n∧i= .int .i64 (k:Int)∧P k∧Below w.heap.size w wr
set_option maxHeartbeats 1000000 in
theorem veq_ints (a b:Option Addr) (n m c c':Nat) (l r:List Int) (w:World) (hl:Ints w ⟨a,n,c⟩ l) (hm:Ints w ⟨b,m,c'⟩ r):
  Calls Tryz.prog 98 #[.slice a n c,.slice b m c'] w fun e w'=>e= .returned (.bool (decide (l=r)))∧Below w.heap.size w w':=by
 have hln:l.length=n:=hl.2.1
 have hrm:r.length=m:=hm.2.1
 have hsm:n≤17592186044000:=hl.2.2.2.2.1
 have HL:=Lib.hid hln
 have HR:=Lib.hid hrm
 by_cases hnm:n=m
 ·subst hnm
  clear hln hrm
  go_enter Tryz.func98,Tryz.ntmps98
  go_wp2_with fail
  go_loopg [5,13,14,15,16,17,18,19,20,21,22,23,24] n (fun f _ i _ _ _ _ _ _ _ _ _ _ _ wr=>EqR w f i (fun k=>l.take k=r.take k) n wr)
  case atStart=>exact ⟨0,by omega,rfl,rfl,Below.refl _ _⟩
  case round=>
   obtain ⟨k,hf,rfl,htk,hbw⟩:=hrel
   have HF:=Lib.hid hf
   have HT:=Lib.hid htk
   clear hf htk
   by_cases hlt:k<n
   ·have t0:decide ((k:Int)<(n:Int))=true:=by simp;omega
    have hkl:k<l.length:=by rw [HL.out];exact hlt
    have hkr:k<r.length:=by rw [HR.out];exact hlt
    obtain ⟨b1,o1,e1,hc1⟩:=hl.1 k (by rw [List.length_map];exact hkl)
    obtain ⟨b2,o2,e2,hc2⟩:=hm.1 k (by rw [List.length_map];exact hkr)
    rw [List.getElem_map] at hc1 hc2
    dsimp only at e1 e2
    subst e1 e2
    have L1:∀W,Old wr.drew W→W.cell? ⟨b1,o1+k,none⟩=some (.int .i64 l[k]):=fun W h=>by
     rw [(below_step (below_step hbw (Below.refl _ _).drew) h).cell (World.block_lt_of_cell? w _ hc1)];exact hc1
    have L2:∀W,Old wr.drew W→W.cell? ⟨b2,o2+k,none⟩=some (.int .i64 r[k]):=fun W h=>by
     rw [(below_step (below_step hbw (Below.refl _ _).drew) h).cell (World.block_lt_of_cell? w _ hc2)];exact hc2
    have HX:=Lib.hid (show l.take (k+1)=r.take (k+1)↔l[k]=r[k] by
     rw [List.take_succ_eq_append_getElem hkl,List.take_succ_eq_append_getElem hkr,HT.out];exact ⟨fun h=>(List.cons.inj (List.append_cancel_left h)).1,fun h=>by rw [h]⟩)
    have HD:=Lib.hid (show ¬l[k]=r[k]→l≠r from fun hne e=>hne (by subst e;rfl))
    clear hc1 hc2
    generalize l[k]=x at*
    generalize r[k]=y at*
    by_cases hxy:x=y
    ·have HXe:=Lib.hid (HX.out.2 hxy)
     clear HX HD
     subst hxy
     go_wp2_with fail
     refine wp_region_old (0::1::2::3::4::5::6::7::8::[]) (by kernel_rfl) (by kernel_rfl) (fun c a d v w h=>by cases d<;>exact h) ?_
     repeat (first|(refine lex_skip rfl (by rfl) ?_;simp only [Act.put,List.setIfInBounds_toArray,List.set])|(refine lex_quiet (v:= ?_) rfl rfl (by rfl) ?_ ?_;rotate_left;(intro W hW;go_simp);(try with_reducible rfl);simp only [Act.put,List.setIfInBounds_toArray,List.set]))
     refine lex_nil ?_
     go_wp2_with fail
     go_roundg (gk-1)
     case measure=>have:=HF.out;omega
     case rel=>exact ⟨k+1,by have:=HF.out;omega,by go_num,HXe.out,below_step hbw (Below.refl _ _).drew⟩
    ·have tn:(x !=y)=true:=by simpa using hxy
     have hne:=Lib.hid (HD.out hxy)
     go_wp2_with fail
     refine wp_region_old (0::1::2::3::4::5::6::7::8::[]) (by kernel_rfl) (by kernel_rfl) (fun c a d v w h=>by cases d<;>exact h) ?_
     repeat (first|(refine lex_skip rfl (by rfl) ?_;simp only [Act.put,List.setIfInBounds_toArray,List.set])|(refine lex_quiet (v:= ?_) rfl rfl (by rfl) ?_ ?_;rotate_left;(intro W hW;go_simp);(try with_reducible rfl);simp only [Act.put,List.setIfInBounds_toArray,List.set]))
     refine lex_nil ?_
     go_wp2_with fail
     go_ret
     exact ⟨by rw [decide_eq_false hne.out];rfl,below_step hbw (Below.refl _ _).drew⟩
   ·have t0:decide ((k:Int)<(n:Int))=false:=by simp;omega
    have he:=Lib.hid (show l=r by
     have:=HT.out
     rwa [List.take_of_length_le (by rw [HL.out];omega),List.take_of_length_le (by rw [HR.out];omega)] at this)
    go_wp2_with fail
    go_ret
    exact ⟨by rw [decide_eq_true he.out];rfl,hbw⟩
 ·have hne:l≠r:=fun e=>hnm (by rw [←hln,←hrm,e])
  rw [decide_eq_false hne]
  have tn:((n:Int) !=(m:Int))=true:=by simp;omega
  clear hln hrm
  go_enter Tryz.func98,Tryz.ntmps98
  go_wp2_with fail
  go_ret
  exact ⟨rfl,Below.refl _ _⟩
theorem vpairT:AggT Tryz.prog 157 2:=⟨⟨_,Tryz.underlying157,rfl⟩,by kernel_rfl⟩
def vpairVal (x:PairL):Value:= .agg #[.int .i64 x.at_,.int .i64 x.by_]
theorem neq_vpair (x y:PairL) (w:World):(binOp .neq 157 (vpairVal x) (vpairVal y)).run Tryz.prog w= .ok (.bool (!decide (x=y))) w:=by
 have m1:Tryz.prog.eqGuardType Tryz.prog.depth 157=false:=by kernel_rfl
 have m2:Tryz.prog.stoodInHeld 157=false:=by kernel_rfl
 obtain ⟨a,b⟩:=x
 obtain ⟨c,d⟩:=y
 unfold vpairVal
 go_simp
 by_cases h1:a=c<;>by_cases h2:b=d<;>simp [h1,h2]
theorem vpairs_elem {w:World} {s:Sl} {l:List PairL} (h:Pairs w s l) (k:Nat) (hk:k<l.length):
  ∃b o,s.a=some ⟨b,o,none⟩∧b<w.heap.size∧∀j (hj:j<l[k].cells.length),w.cell? ⟨b,o+k*2+j,none⟩=some l[k].cells[j]:=
 RowAt.elem (g:=PairL.cells) (sz:=2) (fun _=>rfl) h.1 (by omega) k hk
set_option maxHeartbeats 1000000 in
theorem veq_pairs (a b:Option Addr) (n m c c':Nat) (l r:List PairL) (w:World) (hl:Pairs w ⟨a,n,c⟩ l) (hm:Pairs w ⟨b,m,c'⟩ r):
  Calls Tryz.prog 99 #[.slice a n c,.slice b m c'] w fun e w'=>e= .returned (.bool (decide (l=r)))∧Below w.heap.size w w':=by
 have hln:l.length=n:=hl.2.1
 have hrm:r.length=m:=hm.2.1
 have hsm:n≤8796093021952:=hl.2.2.2.2.1
 have HL:=Lib.hid hln
 have HR:=Lib.hid hrm
 by_cases hnm:n=m
 ·subst hnm
  clear hln hrm
  go_enter Tryz.func99,Tryz.ntmps99
  go_wp2_with fail
  go_loopg [5,13,14,15,16,17,18,19,20,21,22,23,24] n (fun f _ i _ _ _ _ _ _ _ _ _ _ _ wr=>EqR w f i (fun k=>l.take k=r.take k) n wr)
  case atStart=>exact ⟨0,by omega,rfl,rfl,Below.refl _ _⟩
  case round=>
   obtain ⟨k,hf,rfl,htk,hbw⟩:=hrel
   have HF:=Lib.hid hf
   have HT:=Lib.hid htk
   clear hf htk
   by_cases hlt:k<n
   ·have t0:decide ((k:Int)<(n:Int))=true:=by simp;omega
    have hkl:k<l.length:=by rw [HL.out];exact hlt
    have hkr:k<r.length:=by rw [HR.out];exact hlt
    obtain ⟨b1,o1,e1,hbl1,hc1⟩:=vpairs_elem hl k hkl
    obtain ⟨b2,o2,e2,hbl2,hc2⟩:=vpairs_elem hm k hkr
    dsimp only at e1 e2
    subst e1 e2
    have L1:=Lib.hid (show ∀W,Old wr.drew W→∀j (hj:j<l[k].cells.length),W.cell? ⟨b1,o1+k*2+j,none⟩=some l[k].cells[j] from fun W h j hj=>by
     rw [(below_step (below_step hbw (Below.refl _ _).drew) h).cell (show b1<w.heap.size from hbl1)];exact hc1 j hj)
    have L2:=Lib.hid (show ∀W,Old wr.drew W→∀j (hj:j<r[k].cells.length),W.cell? ⟨b2,o2+k*2+j,none⟩=some r[k].cells[j] from fun W h j hj=>by
     rw [(below_step (below_step hbw (Below.refl _ _).drew) h).cell (show b2<w.heap.size from hbl2)];exact hc2 j hj)
    have HX:=Lib.hid (show l.take (k+1)=r.take (k+1)↔l[k]=r[k] by
     rw [List.take_succ_eq_append_getElem hkl,List.take_succ_eq_append_getElem hkr,HT.out];exact ⟨fun h=>(List.cons.inj (List.append_cancel_left h)).1,fun h=>by rw [h]⟩)
    have HD:=Lib.hid (show ¬l[k]=r[k]→l≠r from fun hne e=>hne (by subst e;rfl))
    clear hc1 hc2
    generalize l[k]=x at*
    generalize r[k]=y at*
    by_cases hxy:x=y
    ·have HXe:=Lib.hid (HX.out.2 hxy)
     clear HX HD
     subst hxy
     go_wp2_with fail
     refine wp_region_old (0::1::2::3::4::5::6::7::8::[]) (by kernel_rfl) (by kernel_rfl) (fun c a d v w h=>by cases d<;>exact h) ?_
     repeat (first|(refine lex_skip rfl (by rfl) ?_;simp only [Act.put,List.setIfInBounds_toArray,List.set])|(refine lex_quiet (v:= ?_) rfl rfl (by rfl) ?_ ?_;rotate_left;(intro W hW;go_simp);(try with_reducible rfl);simp only [Act.put,List.setIfInBounds_toArray,List.set]))
     refine lex_quiet (v:=vpairVal x) rfl rfl (by rfl) (fun W hW=>exec_load_as 157 vpairT (.tmp 18) rfl rfl rfl (L1.out W hW) rfl) ?_
     simp only [Act.put,List.setIfInBounds_toArray,List.set]
     repeat (first|(refine lex_skip rfl (by rfl) ?_;simp only [Act.put,List.setIfInBounds_toArray,List.set])|(refine lex_quiet (v:= ?_) rfl rfl (by rfl) ?_ ?_;rotate_left;(intro W hW;go_simp);(try with_reducible rfl);simp only [Act.put,List.setIfInBounds_toArray,List.set]))
     refine lex_quiet (v:=vpairVal x) rfl rfl (by rfl) (fun W hW=>exec_load_as 157 vpairT (.tmp 22) rfl rfl rfl (L2.out W hW) rfl) ?_
     simp only [Act.put,List.setIfInBounds_toArray,List.set]
     refine lex_quiet (v:= .bool false) rfl rfl (by rfl) (fun W hW=>exec_cmp .neq 157 (.tmp 19) (.tmp 23) rfl rfl rfl (by kernel_rfl) ((neq_vpair x x W).trans (by simp))) ?_
     simp only [Act.put,List.setIfInBounds_toArray,List.set]
     refine lex_nil ?_
     go_wp2_with fail
     go_roundg (gk-1)
     case measure=>have:=HF.out;omega
     case rel=>exact ⟨k+1,by have:=HF.out;omega,by go_num,HXe.out,below_step hbw (Below.refl _ _).drew⟩
    ·skip
     have hne:=Lib.hid (HD.out hxy)
     go_wp2_with fail
     refine wp_region_old (0::1::2::3::4::5::6::7::8::[]) (by kernel_rfl) (by kernel_rfl) (fun c a d v w h=>by cases d<;>exact h) ?_
     repeat (first|(refine lex_skip rfl (by rfl) ?_;simp only [Act.put,List.setIfInBounds_toArray,List.set])|(refine lex_quiet (v:= ?_) rfl rfl (by rfl) ?_ ?_;rotate_left;(intro W hW;go_simp);(try with_reducible rfl);simp only [Act.put,List.setIfInBounds_toArray,List.set]))
     refine lex_quiet (v:=vpairVal x) rfl rfl (by rfl) (fun W hW=>exec_load_as 157 vpairT (.tmp 18) rfl rfl rfl (L1.out W hW) rfl) ?_
     simp only [Act.put,List.setIfInBounds_toArray,List.set]
     repeat (first|(refine lex_skip rfl (by rfl) ?_;simp only [Act.put,List.setIfInBounds_toArray,List.set])|(refine lex_quiet (v:= ?_) rfl rfl (by rfl) ?_ ?_;rotate_left;(intro W hW;go_simp);(try with_reducible rfl);simp only [Act.put,List.setIfInBounds_toArray,List.set]))
     refine lex_quiet (v:=vpairVal y) rfl rfl (by rfl) (fun W hW=>exec_load_as 157 vpairT (.tmp 22) rfl rfl rfl (L2.out W hW) rfl) ?_
     simp only [Act.put,List.setIfInBounds_toArray,List.set]
     refine lex_quiet (v:= .bool true) rfl rfl (by rfl) (fun W hW=>exec_cmp .neq 157 (.tmp 19) (.tmp 23) rfl rfl rfl (by kernel_rfl) ((neq_vpair x y W).trans (by simp [hxy]))) ?_
     simp only [Act.put,List.setIfInBounds_toArray,List.set]
     refine lex_nil ?_
     go_wp2_with fail
     go_ret
     exact ⟨by rw [decide_eq_false hne.out];rfl,below_step hbw (Below.refl _ _).drew⟩
   ·have t0:decide ((k:Int)<(n:Int))=false:=by simp;omega
    have he:=Lib.hid (show l=r by
     have:=HT.out
     rwa [List.take_of_length_le (by rw [HL.out];omega),List.take_of_length_le (by rw [HR.out];omega)] at this)
    go_wp2_with fail
    go_ret
    exact ⟨by rw [decide_eq_true he.out];rfl,hbw⟩
 ·have hne:l≠r:=fun e=>hnm (by rw [←hln,←hrm,e])
  rw [decide_eq_false hne]
  have tn:((n:Int) !=(m:Int))=true:=by simp;omega
  clear hln hrm
  go_enter Tryz.func99,Tryz.ntmps99
  go_wp2_with fail
  go_ret
  exact ⟨rfl,Below.refl _ _⟩
theorem thn_ok {α β:Type} (v:α) (a:Nat) (f:α→Nat→Rd β):thn (.ok (v,a)) f=f v a:=rfl
theorem set_ne {cs:Array Value} {i j:Nat} {v:Value} (h:i≠j):(cs.setIfInBounds i v)[j]? =cs[j]? :=by
 rw [Array.getElem?_setIfInBounds,if_neg h]
def ORes {α H:Type} (B:Nat) (w:World) (q:RC) (r:Rd α) (Ow:World→α→H→Prop) (f:α→H→Array Value) (xb:Nat) (t:TypeId) (e:Ending) (w':World):Prop:=match r with
 | .error p=>e= .panicked (wrongP p)∧RBad w q w' xb t
 | .ok (l,a)=>e= .returned (.tuple #[])∧∃s,Ow w' l s∧RGot B w q w' (q.to a) xb (f l s) t
section
variable {α H:Type} {B:Nat} {w w':World} {q:RC} {r:Rd α} {Ow:World→α→H→Prop} {f:α→H→Array Value} {xb:Nat} {t:TypeId} {e:Ending}
theorem ORes.err (h:ORes B w q r Ow f xb t e w') {p:Nat} (hr:r= .error p):e= .panicked (wrongP p)∧RBad w q w' xb t:=by subst hr;exact h
theorem ORes.ok (h:ORes B w q r Ow f xb t e w') {v:α} {a:Nat} (hr:r= .ok (v,a)):e= .returned (.tuple #[])∧∃s,Ow w' v s∧RGot B w q w' (q.to a) xb (f v s) t:=by subst hr;exact h
end
section
variable {w w':World} {B:Nat} {s:Sl} {F:Nat→Prop}
theorem Own.turn {e:TypeId} {size:Nat} {a:Option Addr} {n c:Nat} {vs:List Value} (h:Own w B e size a n c vs) (ht:Turn F w w') (hF:∀x,F x→x<B):Own w' B e size a n c vs:=
 h.keepAt fun x hx=>by
  obtain ⟨h1,h2,_⟩:=h.block_lt hx
  exact ht.block _ h2 fun hf=>by have:=hF _ hf;omega
theorem OwnInts.turn {l:List Int} (h:OwnInts w B s l) (ht:Turn F w w') (hF:∀x,F x→x<B):OwnInts w' B s l:=⟨h.1.turn ht hF,(h.1.turn ht hF).row,h.2.2⟩
theorem OwnPairs.turn {l:List PairL} (h:OwnPairs w B s l) (ht:Turn F w w') (hF:∀x,F x→x<B):OwnPairs w' B s l:=⟨h.1.turn ht hF,(h.1.turn ht hF).row,h.2.2⟩
end
theorem numsV3 (bs:List UInt8) (a:Nat):numsV bs a 3=[.int .i64 (numAt bs a),.int .i64 (numAt bs (a+8)),.int .i64 (numAt bs (a+16))]:=rfl
theorem wf8_rdSmall {bs:List UInt8} {a:Nat} {n:Int} {b:Nat} (h:rdSmall bs a= .ok (n,b)):wf8 n:=by
 unfold rdSmall at h
 cases hn:rdNum bs a with
 |error p=>rw [hn] at h;cases h
 |ok v=>
  rw [hn] at h
  dsimp only at h
  split at h
  ·cases h
  ·rename_i ho
   cases h
   simp only [wf8,Lit.wf,IntKind.min,IntKind.max,IntKind.signed,IntKind.bits]
   simp
   omega
set_option maxHeartbeats 8000000 in
theorem action_r (w:World) (B:Nat) (q:RC) (xb:Nat) (cs:Array Value) (t:TypeId) (p0:ActionP) (h0:ActionH) (hq:RAt w B q) (hB:B≤w.heap.size) (hx:Blk w xb cs t) (hcs:cs=(actionCells p0 h0).toArray) (hxB:B≤xb) (hxc:xb≠q.c):
  Calls Tryz.prog 121 #[.pointer (some ⟨q.c,0,none⟩),.pointer (some ⟨xb,0,none⟩)] w (ORes B w q (rdAction q.bs q.at_) (fun W=>ActionOwn W w.heap.size) (fun p h=>(actionCells p h).toArray) xb t):=by
 have hmf:∀(fn:Fn) (first cap:Array Value) (w:World),(Instr.makeFunc fn first cap).run Tryz.prog w= .ok (.func fn first cap) w:=fun _ _ _ _=>rfl
 have hi3:∀j,j<3→∃v,cs[1+j]? =some (.int .i64 v):=fun j hj=>by
  rw [hcs]
  rcases (show j=0∨j=1∨j=2 by omega) with rfl|rfl|rfl
  ·exact ⟨p0.side,rfl⟩
  ·exact ⟨p0.place,rfl⟩
  ·exact ⟨p0.target,rfl⟩
 have i0:cs[0]? =some (.int .i8 p0.op):=by rw [hcs];rfl
 have i4:cs[4]? =some (.slice h0.ids.a h0.ids.n h0.ids.c):=by rw [hcs];rfl
 have i5:cs[5]? =some (.slice h0.pairs.a h0.pairs.n h0.pairs.c):=by rw [hcs];rfl
 have hsz:cs.size=6:=by rw [hcs];rfl
 have hxcl:=hq.blk.lt
 have hxl:=hx.lt
 have hF:∀x,(x=q.c∨x=xb)→x<w.heap.size:=fun x hx=>by rcases hx with rfl|rfl<;>assumption
 clear hcs
 go_enter Tryz.func121,Tryz.ntmps121
 have HW:=Lib.hid (show rdAction q.bs q.at_=thn (rdSmall q.bs q.at_) fun op a=>thn (rdNum q.bs a) fun side a=>thn (rdNum q.bs a) fun place a=>thn (rdNum q.bs a) fun target a=>thn (rdInts q.bs a) fun ids a=>thn (rdPairs q.bs a) fun pairs a=> .ok ((⟨op,side,place,target,ids,pairs⟩:ActionP),a) from rfl)
 have hg0:RGot B w q w (q.to q.at_) xb cs t:=⟨hq,Turn.refl _ _,hx⟩
 have cb:=small_r w B (q.to q.at_) xb 0 cs t p0.op hg0.at' (Nat.le_trans hB hg0.turn.size) hg0.blk i0 hxB hxc
 have hcc:(q.to q.at_).c=q.c:=rfl
 rw [hcc] at cb
 go_wp2_with fail
 refine cb.mono ?_
 clear cb
 rintro e w1 hres
 rcases hE1:rdSmall q.bs q.at_ with p|⟨v1,a1⟩
 ·obtain ⟨rfl,hbE⟩:=hres.err hE1
  have HR:=Lib.hid (show rdAction q.bs q.at_= .error p by
   rw [HW.out,hE1]
   rfl)
  have hbB:RBad w q w1 xb t:=RBad.after hg0 hx rfl hbE rfl
  clear hres
  go_wp2_with fail
  refine ⟨rfl,?_⟩
  rw [HR.out]
  exact ⟨rfl,hbB⟩
 obtain ⟨rfl,hr⟩:=hres.ok hE1
 rw [hE1,thn_ok] at HW
 replace hr:=hg0.chain (q'':=q.to a1) hr rfl
 obtain ⟨C1,hC1⟩:∃C:Array Value,C=cs.setIfInBounds 0 (.int .i8 v1):=⟨_,rfl⟩
 have hg1:RGot B w q w1 (q.to a1) xb C1 t:=by rw [hC1];exact hr
 have hk1:∀j,0+1≤j→C1[j]? =cs[j]? :=fun j hj=>by
  rw [hC1]
  exact set_ne (by omega)
 have hs1:C1.size=cs.size:=by rw [hC1];simp only [Array.size_setIfInBounds,putRow_size]<;>exact rfl
 have wf1:=wf8_rdSmall hE1
 clear hr hres hE1
 go_upto_region 1 with (fail)
 have hi31:∀j,j<3→∃v,C1[1+j]? =some (.int .i64 v):=fun j hj=>by
  obtain ⟨v,hv⟩:=hi3 j hj
  exact ⟨v,(hk1 _ (by omega)).trans hv⟩
 have hB1:=Nat.le_trans hB hg1.turn.size
 have hq1:=hg1.at'
 have hx1:=hg1.blk
 refine wp_region_treeR false (KeepAt (fun _=>False)) (KeepAt.refl _) (fun _ _ _ h1 h2=>KeepAt.trans h1 h2) (.step 0 (.step 1 (.step 2 (.step 3 (.step 4 (.step 5 (.step 6 (.step 7 (.step 8 (.step 9 (.step 10 (.step 11 .done)))))))))))) (by kernel_rfl) (by kernel_rfl) (fun c a d v w h=>by cases d<;>exact h) ?_
 repeat (first|(refine tree_skip rfl (by rfl) ?_;simp only [Act.put,List.setIfInBounds_toArray,List.set])|(refine tree_quiet (v:= ?_) rfl rfl (by rfl) ?_ ?_;rotate_left;(intro W hW;go_simp);(try with_reducible rfl);simp only [Act.put,List.setIfInBounds_toArray,List.set]))
 refine tree_loud rfl rfl (by rfl) (fun K hK=> ?_);go_wp2_with fail
 refine hK _ _ ⟨by simp,fun _ h=>h.elim⟩ ?_
 clear hK K
 repeat (first|(refine tree_skip rfl (by rfl) ?_;simp only [Act.put,List.setIfInBounds_toArray,List.set])|(refine tree_quiet (v:= ?_) rfl rfl (by rfl) ?_ ?_;rotate_left;(intro W hW;go_simp);(try with_reducible rfl);simp only [Act.put,List.setIfInBounds_toArray,List.set]))
 refine tree_loud rfl rfl (by rfl) (fun K hK=> ?_);go_wp2_with fail
 have hb1:Below w1.heap.size w1 (w1.alloc (.cells #[.pointer (some ⟨xb,1,none⟩),.pointer (some ⟨xb,2,none⟩),.pointer (some ⟨xb,3,none⟩)] 209)).drew:=by (try unfold Kept);repeat (first|assumption|exact Below.refl _ _|exact below_undrew (Below.refl _ _)|exact Below.mono (by assumption) (by first|(simp;done)|(simp;omega)|omega)|refine below_setRow ?_ (by first|(simp;done)|(simp;omega)|omega) _|refine Below.setCell ?_ (by first|(simp;done)|(simp;omega)|omega) _|refine Below.alloc ?_ (by first|(simp;done)|(simp;omega)|omega) _|refine below_drewN ?_ _|refine Below.drew ?_|refine below_undrew ?_|refine below_step ?_ (by assumption))
 have cb:=nums_r _ B (q.to a1) w1.heap.size 3 xb 1 C1 _ (hq1.old hb1 hB1) (Nat.le_trans hB1 hb1.size) (Blk.new w1 #[.pointer (some ⟨xb,1,none⟩),.pointer (some ⟨xb,2,none⟩),.pointer (some ⟨xb,3,none⟩)] 209).drew (Nat.ne_of_gt hq1.blk.lt) (Nat.ne_of_gt hx1.lt) (hx1.old hb1) hi31 hxB hxc (by omega)
 have hcc:(q.to a1).c=q.c:=rfl
 rw [hcc] at cb
 refine cb.mono ?_
 clear cb
 rintro e w2 ⟨h1,h2⟩
 rcases Nat.lt_or_ge q.bs.length (a1+8*3) with hless|hmore
 ·obtain ⟨rfl,hb2⟩:=h1 hless
  have HR:=Lib.hid (show rdAction q.bs q.at_= .error q.bs.length by rw [HW.out];exact rd3_err q.bs a1 _ (by omega))
  have hb3:RBad w q w2 xb t:=RBad.after hg1 hx hs1 (RBad.pre hb1 hb2) rfl
  clear h1 h2 hK
  go_wp2_with fail
  refine ⟨rfl,?_⟩
  rw [HR.out]
  exact ⟨rfl,hb3⟩
 obtain ⟨rfl,hr⟩:=h2 hmore
 have hz2:=hr.turn.size
 replace hr:=hg1.chain (q'':=q.to (a1+8*3)) (hr.pre hb1) rfl
 have HW2:=Lib.hid (show rdAction q.bs q.at_=thn (rdInts q.bs (a1+8*3)) fun ids a=>thn (rdPairs q.bs a) fun pairs a=> .ok ((⟨v1,numAt q.bs a1,numAt q.bs (a1+8),numAt q.bs (a1+16),ids,pairs⟩:ActionP),a) by
  rw [HW.out]
  exact rd3_ok q.bs a1 (fun side place target a=>thn (rdInts q.bs a) fun ids a=>thn (rdPairs q.bs a) fun pairs a=> .ok ((⟨v1,side,place,target,ids,pairs⟩:ActionP),a)) hmore)
 clear h1 h2 HW
 have HW:=HW2
 clear HW2
 go_wp2_with fail
 refine hK _ _ ⟨by simpa using hz2,fun _ h=>h.elim⟩ ?_
 clear hK K
 refine tree_done ?_
 obtain ⟨C2,hC2⟩:∃C,C=putRow C1 1 (numsV q.bs a1 3):=⟨_,rfl⟩
 obtain ⟨a2,ha2⟩:∃a,a=a1+8*3:=⟨_,rfl⟩
 have hg2:RGot B w q w2 (q.to a2) xb C2 t:=by rw [hC2,ha2];exact hr
 have hs2:C2.size=cs.size:=by rw [hC2,putRow_size];exact hs1
 have hk2:∀j,4≤j→C2[j]? =cs[j]? :=fun j hj=>by
  rw [hC2,putRow_other _ _ _ _ (.inr (by simp;omega))]
  exact hk1 j (by omega)
 rw [←ha2] at HW
 clear hr
 have cb:=list_int_r w2 B (q.to a2) xb 4 C2 t h0.ids hg2.at' (Nat.le_trans hB hg2.turn.size) hg2.blk ((hk2 _ (by omega)).trans i4) hxB hxc
 have hcc:(q.to a2).c=q.c:=rfl
 rw [hcc] at cb
 go_wp2_with fail
 refine cb.mono ?_
 clear cb
 rintro e w3 hres
 rcases hE3:rdInts q.bs a2 with p|⟨v3,a3⟩
 ·obtain ⟨rfl,hbE⟩:=hres.err hE3
  have HR:=Lib.hid (show rdAction q.bs q.at_= .error p by
   rw [HW.out,hE3]
   rfl)
  have hbB:RBad w q w3 xb t:=RBad.after hg2 hx hs2 hbE rfl
  clear hres
  go_wp2_with fail
  refine ⟨rfl,?_⟩
  rw [HR.out]
  exact ⟨rfl,hbB⟩
 obtain ⟨rfl,s3,ho3,hr⟩:=hres.ok hE3
 rw [hE3,thn_ok] at HW
 have hp3:OwnInts w3 w.heap.size s3 v3:=ho3.lower hg2.turn.size
 clear ho3
 replace hr:=hg2.chain (q'':=q.to a3) hr rfl
 obtain ⟨C3,hC3⟩:∃C:Array Value,C=C2.setIfInBounds 4 (.slice s3.a s3.n s3.c):=⟨_,rfl⟩
 have hg3:RGot B w q w3 (q.to a3) xb C3 t:=by rw [hC3];exact hr
 have hk3:∀j,4+1≤j→C3[j]? =cs[j]? :=fun j hj=>by
  rw [hC3]
  exact (set_ne (by omega)).trans (hk2 j (by omega))
 have hs3:C3.size=cs.size:=by rw [hC3];simp only [Array.size_setIfInBounds,putRow_size]<;>exact hs2
 clear hr hres hE3
 have cb:=list_pair_r w3 B (q.to a3) xb 5 C3 t h0.pairs hg3.at' (Nat.le_trans hB hg3.turn.size) hg3.blk ((hk3 _ (by omega)).trans i5) hxB hxc
 have hcc:(q.to a3).c=q.c:=rfl
 rw [hcc] at cb
 go_wp2_with fail
 refine cb.mono ?_
 clear cb
 rintro e w4 hres
 rcases hE4:rdPairs q.bs a3 with p|⟨v4,a4⟩
 ·obtain ⟨rfl,hbE⟩:=hres.err hE4
  have HR:=Lib.hid (show rdAction q.bs q.at_= .error p by
   rw [HW.out,hE4]
   rfl)
  have hbB:RBad w q w4 xb t:=RBad.after hg3 hx hs3 hbE rfl
  clear hres
  go_wp2_with fail
  refine ⟨rfl,?_⟩
  rw [HR.out]
  exact ⟨rfl,hbB⟩
 obtain ⟨rfl,s4,ho4,hr⟩:=hres.ok hE4
 rw [hE4,thn_ok] at HW
 have hp4:OwnPairs w4 w.heap.size s4 v4:=ho4.lower hg3.turn.size
 clear ho4
 replace hp3:=hp3.turn hr.turn hF
 replace hr:=hg3.chain (q'':=q.to a4) hr rfl
 obtain ⟨C4,hC4⟩:∃C:Array Value,C=C3.setIfInBounds 5 (.slice s4.a s4.n s4.c):=⟨_,rfl⟩
 have hg4:RGot B w q w4 (q.to a4) xb C4 t:=by rw [hC4];exact hr
 have hk4:∀j,5+1≤j→C4[j]? =cs[j]? :=fun j hj=>by
  rw [hC4]
  exact (set_ne (by omega)).trans (hk3 j (by omega))
 have hs4:C4.size=cs.size:=by rw [hC4];simp only [Array.size_setIfInBounds,putRow_size]<;>exact hs3
 clear hr hres hE4
 go_wp2_with fail
 refine bodyPost_end (v:= .tuple #[]) (results_none rfl _ _ _) rfl ?_
 rw [HW.out]
 refine ⟨rfl,⟨s3,s4⟩,⟨wf1,wf64_numAt _ _,wf64_numAt _ _,wf64_numAt _ _,hp3,hp4⟩,?_⟩
 have e1:(actionCells ⟨v1,numAt q.bs a1,numAt q.bs (a1+8),numAt q.bs (a1+16),v3,v4⟩ ⟨s3,s4⟩).toArray=C4:=by
  rw [←putRow_all (cs:=cs) (by rw [hsz];rfl),hC4,hC3,hC2,hC1,numsV3]
  simp only [actionCells,putRow,Nat.zero_add,Nat.reduceAdd]
 dsimp only
 rw [e1]
 exact hg4
def zeroDC:Array Value:= #[.int .i8 0,.int .i64 0,.int .i64 0,.string ⟨#[]⟩,.string ⟨#[]⟩,.string ⟨#[]⟩,.slice none 0 0,.slice none 0 0,.slice none 0 0,.int .i8 0,.int .i64 0,.int .i64 0,.int .i64 0,.slice none 0 0,.slice none 0 0]
theorem OwnInts.cell1 {w:World} {B g i:Nat} {s:Sl} {l:List Int} {cs:Array Value} {t:TypeId} (h:OwnInts w B s l) (hB:Blk w g cs t) (hne:t≠3) (v:Value):OwnInts (w.setCell ⟨g,i,none⟩ v) B s l:=
 ⟨h.1.setCell_apart hB hne i v,(h.1.setCell_apart hB hne i v).row,h.2.2⟩
theorem OwnInts.row1 {w:World} {B g:Nat} {s:Sl} {l:List Int} {cs:Array Value} {t:TypeId} (h:OwnInts w B s l) (hB:Blk w g cs t) (hne:t≠3) (cs':Array Value):OwnInts (w.setRow g cs') B s l:=
 ⟨h.1.setRow_apart hB hne cs',(h.1.setRow_apart hB hne cs').row,h.2.2⟩
theorem OwnPairs.cell1 {w:World} {B g i:Nat} {s:Sl} {l:List PairL} {cs:Array Value} {t:TypeId} (h:OwnPairs w B s l) (hB:Blk w g cs t) (hne:t≠157) (v:Value):OwnPairs (w.setCell ⟨g,i,none⟩ v) B s l:=
 ⟨h.1.setCell_apart hB hne i v,(h.1.setCell_apart hB hne i v).row,h.2.2⟩
theorem OwnPairs.row1 {w:World} {B g:Nat} {s:Sl} {l:List PairL} {cs:Array Value} {t:TypeId} (h:OwnPairs w B s l) (hB:Blk w g cs t) (hne:t≠157) (cs':Array Value):OwnPairs (w.setRow g cs') B s l:=
 ⟨h.1.setRow_apart hB hne cs',(h.1.setRow_apart hB hne cs').row,h.2.2⟩
theorem OwnInts.ofClone {w w0:World} {B:Nat} {a':Option Addr} {c':Nat} {s0:Sl} {l:List Int} (h:Own w B 3 1 a' s0.n c' (l.map (Value.int .i64))) (h0:Ints w0 s0 l):OwnInts w B ⟨a',s0.n,c'⟩ l:=OwnInts.mk' (s:=⟨a',s0.n,c'⟩) h h0 rfl
def CopR (w:World) (X:Nat) (p:DeedP) (h:DeedH) (f:Nat) (i:Value) (wr:World):Prop:=
 ∃(k:Nat) (s0 s1:Sl),k+f=2∧i= .int .i64 (k:Int)∧Blk wr X (deedCells p ⟨s0,s1,h.dr,h.act⟩).toArray 40∧Blk wr (X+1) zeroDC 40∧(k=0→s0=h.d0)∧(k<2→s1=h.d1)∧(0<k→OwnInts wr w.heap.size s0 p.d0)∧(1<k→OwnInts wr w.heap.size s1 p.d1)∧Below w.heap.size w wr
set_option maxHeartbeats 2000000 in
theorem vcopied_any (p:DeedP) (h:DeedH) (w:World) (hd:DeedAt w p h):
  Calls Tryz.prog 71 #[deedVal p h] w fun e w'=>∃h',e= .returned (deedVal p h')∧DeedOwn w' w.heap.size p h'∧Below w.heap.size w w':=by
 rw [deedVal_cells]
 go_enter Tryz.func71,Tryz.ntmps71
 go_upto_region 1 with (fail)
 obtain ⟨X,hX⟩:∃X,X=w.heap.size:=⟨_,rfl⟩
 rw [←hX]
 refine wp_forget (fun W=>CopR w X p h 2 (.int .i64 0) W) ⟨0,h.d0,h.d1,rfl,rfl,by subst hX;exact Blk.new2 w _ _ _,by subst hX;exact Blk.new2' w _ _ _,fun _=>rfl,fun _=>rfl,fun h=>by omega,fun h=>by omega,by subst hX;(try unfold Kept);repeat (first|assumption|exact Below.refl _ _|exact below_undrew (Below.refl _ _)|exact Below.mono (by assumption) (by first|(simp;done)|(simp;omega)|omega)|refine below_setRow ?_ (by first|(simp;done)|(simp;omega)|omega) _|refine Below.setCell ?_ (by first|(simp;done)|(simp;omega)|omega) _|refine Below.alloc ?_ (by first|(simp;done)|(simp;omega)|omega) _|refine below_drewN ?_ _|refine Below.drew ?_|refine below_undrew ?_|refine below_step ?_ (by assumption))⟩ ?_
 intro W1 hst
 have hXw:w.heap.size≤X:=Nat.le_of_eq hX.symm
 clear hX
 go_wp2_with fail
 go_loopg [3,4,5,6,7,8,9,10,11,12,13,14,15] 2 (fun f _ i _ _ _ _ _ _ _ _ _ _ _ wr=>CopR w X p h f i wr)
 case atStart=>exact hst
 case round=>
  clear hst
  obtain ⟨k,s0,s1,hf,rfl,hbX,hbR,h0,h1,ho0,ho1,hbw⟩:=hrel
  have HF:=Lib.hid hf
  clear hf
  by_cases hk:k<2
  ·have h3:k=0∨k=1:=by omega
   have hzw:=hbw.size
   have l6:wr.cell? ⟨X,6,none⟩=some (.slice s0.a s0.n s0.c):=hbX.cell rfl
   have l7:wr.cell? ⟨X,7,none⟩=some (.slice s1.a s1.n s1.c):=hbX.cell rfl
   rcases h3 with rfl|rfl
   ·obtain rfl:=h0 rfl
    obtain rfl:=h1 (by omega)
    have cb:=vclone_ints h.d0.a h.d0.n h.d0.c p.d0 wr (hd.d0.old hbw)
    clear h0 h1 ho0 ho1
    go_wp2_with fail
    refine cb.mono ?_
    clear cb
    rintro e w2 ⟨a',c',rfl,ho,hb2⟩
    have hbX2:=hbX.old hb2
    have hbR2:=hbR.old hb2
    have hfr:=hbX2.free
    have l6':w2.cell? ⟨X,6,none⟩=some (.slice h.d0.a h.d0.n h.d0.c):=hbX2.cell rfl
    go_wp2_with fail
    go_roundg 1
    case measure=>have:=HF.out;omega
    case rel=>
     refine ⟨1,⟨a',h.d0.n,c'⟩,h.d1,by omega,by go_num,hbX2.set 6 _,hbR2.other _ _ (by simp),fun h=>by omega,fun _=>rfl,fun _=> ?_,fun h=>by omega,(below_step hbw hb2).setCell (by show w.heap.size≤X;omega) _⟩
     exact ((OwnInts.ofClone ho hd.d0).lower hzw).cell1 hbX2 (by decide) _
   ·obtain rfl:=h1 (by omega)
    have ho0:=ho0 (by omega)
    have cb:=vclone_ints h.d1.a h.d1.n h.d1.c p.d1 wr (hd.d1.old hbw)
    clear h0 h1 ho1
    go_wp2_with fail
    refine cb.mono ?_
    clear cb
    rintro e w2 ⟨a',c',rfl,ho,hb2⟩
    have hbX2:=hbX.old hb2
    have hbR2:=hbR.old hb2
    have hfr:=hbX2.free
    have ho02:=ho0.old hb2
    have l7':w2.cell? ⟨X,7,none⟩=some (.slice h.d1.a h.d1.n h.d1.c):=hbX2.cell rfl
    go_wp2_with fail
    go_roundg 0
    case measure=>have:=HF.out;omega
    case rel=>
     refine ⟨2,s0,⟨a',h.d1.n,c'⟩,by omega,by go_num,hbX2.set 7 _,hbR2.other _ _ (by simp),fun h=>by omega,fun h=>by omega,fun _=>ho02.cell1 hbX2 (by decide) _,fun _=> ?_,(below_step hbw hb2).setCell (by show w.heap.size≤X;omega) _⟩
     exact ((OwnInts.ofClone ho hd.d1).lower hzw).cell1 hbX2 (by decide) _
  ·obtain rfl:k=2:=by have:=HF.out;omega
   have ho0:=ho0 (by omega)
   have ho1:=ho1 (by omega)
   have hzw:=hbw.size
   have l8:wr.cell? ⟨X,8,none⟩=some (.slice h.dr.a h.dr.n h.dr.c):=hbX.cell rfl
   have cb:=vclone_ints h.dr.a h.dr.n h.dr.c p.dr wr (hd.dr.old hbw)
   clear h0 h1
   go_wp2_with fail
   refine cb.mono ?_
   clear cb
   rintro e w2 ⟨a',c',rfl,ho,hb2⟩
   have hbX2:=hbX.old hb2
   have hbR2:=hbR.old hb2
   have hfr:=hbX2.free
   have ho02:=ho0.old hb2
   have ho12:=ho1.old hb2
   have l8':w2.cell? ⟨X,8,none⟩=some (.slice h.dr.a h.dr.n h.dr.c):=hbX2.cell rfl
   go_upto_region 7 with (fail)
   refine wp_forget (fun W=>Blk W X (deedCells p ⟨s0,s1,⟨a',h.dr.n,c'⟩,h.act⟩).toArray 40∧Blk W (X+1) zeroDC 40∧OwnInts W w.heap.size s0 p.d0∧OwnInts W w.heap.size s1 p.d1∧OwnInts W w.heap.size ⟨a',h.dr.n,c'⟩ p.dr∧Below w.heap.size w W)
    ⟨hbX2.set 8 _,hbR2.other _ _ (by simp),ho02.cell1 hbX2 (by decide) _,ho12.cell1 hbX2 (by decide) _,((OwnInts.ofClone ho hd.dr).lower hzw).cell1 hbX2 (by decide) _,(below_step hbw hb2).setCell (by show w.heap.size≤X;omega) _⟩ ?_
   rintro W2 ⟨kX,kR,k0,k1,k2,kb⟩
   have m13:∀W,KeepAt (fun x=>x=X) W2.drew W→W.cell? ⟨X,13,none⟩=some (.slice h.act.ids.a h.act.ids.n h.act.ids.c):=fun W hW=>by
    rw [World.cell?_of_block (a:=⟨X,13,none⟩) (hW.2 X rfl)];exact kX.cell rfl
   have m14:∀W,KeepAt (fun x=>x=X) W2.drew W→W.cell? ⟨X,14,none⟩=some (.slice h.act.pairs.a h.act.pairs.n h.act.pairs.c):=fun W hW=>by
    rw [World.cell?_of_block (a:=⟨X,14,none⟩) (hW.2 X rfl)];exact kX.cell rfl
   refine wp_region_treeR true (KeepAt (fun x=>x=X)) (KeepAt.refl _) (fun _ _ _ h1 h2=>KeepAt.trans h1 h2) (.step 0 (.step 1 (.step 2 (.step 4 (.step 5 (.step 6 (.step 3 (.step 8 (.step 9 (.step 7 (.step 10 (.step 11 (.step 12 (.step 13 .done)))))))))))))) (by kernel_rfl) (by kernel_rfl) (fun c a d v w h=>by cases d<;>exact h) ?_
   repeat (first|(refine tree_skip rfl (by rfl) ?_;simp only [Act.put,List.setIfInBounds_toArray,List.set])|(refine tree_quiet (v:= ?_) rfl rfl (by rfl) ?_ ?_;rotate_left;(intro W hW;go_simp);(try with_reducible rfl);simp only [Act.put,List.setIfInBounds_toArray,List.set]))
   refine tree_loud rfl rfl (by rfl) (fun K hK=> ?_)
   go_wp2_with fail
   refine (vclone_ints _ _ _ p.act.ids _ ((hd.act.ids.old kb).old (Below.refl _ _).drew)).mono ?_
   rintro e w3 ⟨a3,c3,rfl,ho3,hb3⟩
   have kX3:=kX.drew.old hb3
   go_wp2_with fail
   refine hK _ _ ⟨hb3.size,fun x hx=>by subst hx;exact kX3.trans kX.symm⟩ ?_
   clear hK K
   repeat (first|(refine tree_skip rfl (by rfl) ?_;simp only [Act.put,List.setIfInBounds_toArray,List.set])|(refine tree_quiet (v:= ?_) rfl rfl (by rfl) ?_ ?_;rotate_left;(intro W hW;go_simp);(try with_reducible rfl);simp only [Act.put,List.setIfInBounds_toArray,List.set]))
   refine tree_loud rfl rfl (by rfl) (fun K hK=> ?_)
   go_wp2_with fail
   refine (vclone_pairs _ _ _ p.act.pairs _ (((hd.act.pairs.old kb).old (Below.refl _ _).drew).old hb3)).mono ?_
   rintro e w4 ⟨a4,c4,rfl,ho4,hb4⟩
   have kX4:=kX3.old hb4
   go_wp2_with fail
   refine hK _ _ ⟨hb4.size,fun x hx=>by subst hx;exact kX4.trans kX3.symm⟩ ?_
   clear hK K
   repeat (first|(refine tree_skip rfl (by rfl) ?_;simp only [Act.put,List.setIfInBounds_toArray,List.set])|(refine tree_quiet (v:= ?_) rfl rfl (by rfl) ?_ ?_;rotate_left;(intro W hW;go_simp);(try with_reducible rfl);simp only [Act.put,List.setIfInBounds_toArray,List.set]))
   have f4:=kX4.free
   have q13:w4.cell? ⟨X,13,none⟩=some (.slice h.act.ids.a h.act.ids.n h.act.ids.c):=kX4.cell rfl
   refine tree_store rfl rfl (by rfl) (fun K hK=> ?_)
   go_wp2_with fail
   repeat (first|(refine tree_skip rfl (by rfl) ?_;simp only [Act.put,List.setIfInBounds_toArray,List.set])|(refine tree_quiet (v:= ?_) rfl rfl (by rfl) ?_ ?_;rotate_left;(intro W hW;go_simp);(try with_reducible rfl);simp only [Act.put,List.setIfInBounds_toArray,List.set]))
   have kX5:=kX4.set 13 (.slice a3 h.act.ids.n c3)
   have f5:=kX5.free
   have q14:(w4.setCell ⟨X,13,none⟩ (.slice a3 h.act.ids.n c3)).cell? ⟨X,14,none⟩=some (.slice h.act.pairs.a h.act.pairs.n h.act.pairs.c):=kX5.cell rfl
   refine tree_store rfl rfl (by rfl) (fun K hK=> ?_)
   go_wp2_with fail
   refine tree_done ?_
   have kX6:=kX5.set 14 (.slice a4 h.act.pairs.n c4)
   have kR6:Blk ((w4.setCell ⟨X,13,none⟩ (.slice a3 h.act.ids.n c3)).setCell ⟨X,14,none⟩ (.slice a4 h.act.pairs.n c4)) (X+1) zeroDC 40:=(((kR.drew.old hb3).old hb4).other _ _ (by simp)).other _ _ (by simp)
   go_wp2_with (first|refine wpList_load_blk rfl 40 deedT (.tmp 1) rfl rfl kX6 rfl ?_|refine wpList_store_blk rfl 40 deedT (.tmp 2) _ rfl rfl rfl kR6 rfl rfl rfl ?_)
   have has:∀(ad:Addr) (w:World),(asAddr (.pointer (some ad))).run Tryz.prog w= .ok ad w:=fun _ _=>rfl
   have kR7:=kR6.setRow (deedCells p ⟨s0,s1,⟨a',h.dr.n,c'⟩,⟨⟨a3,h.act.ids.n,c3⟩,⟨a4,h.act.pairs.n,c4⟩⟩⟩).toArray
   have cx:(loadVar 40 ⟨X+1,0,none⟩).run Tryz.prog _= .ok (deedVal p ⟨s0,s1,⟨a',h.dr.n,c'⟩,⟨⟨a3,h.act.ids.n,c3⟩,⟨a4,h.act.pairs.n,c4⟩⟩⟩) _:=run_load_cells deedT (cs:=deedCells p ⟨s0,s1,⟨a',h.dr.n,c'⟩,⟨⟨a3,h.act.ids.n,c3⟩,⟨a4,h.act.pairs.n,c4⟩⟩⟩) (fun j hj=>by rw [Nat.zero_add,kR7.rule j];simp [hj]) rfl
   refine bodyPost_ret (v:=deedVal p ⟨s0,s1,⟨a',h.dr.n,c'⟩,⟨⟨a3,h.act.ids.n,c3⟩,⟨a4,h.act.pairs.n,c4⟩⟩⟩) ?_ rfl ⟨_,rfl,?_,?_⟩
   ·simp [results,Tryz.results71,has]
    exact cx
   ·have two:∀{s:Sl} {l:List Int},OwnInts w4 w.heap.size s l→OwnInts (((w4.setCell ⟨X,13,none⟩ (.slice a3 h.act.ids.n c3)).setCell ⟨X,14,none⟩ (.slice a4 h.act.pairs.n c4)).setRow (X+1) (deedCells p ⟨s0,s1,⟨a',h.dr.n,c'⟩,⟨⟨a3,h.act.ids.n,c3⟩,⟨a4,h.act.pairs.n,c4⟩⟩⟩).toArray) w.heap.size s l:=
     fun q=>((q.cell1 kX4 (by decide) _).cell1 kX5 (by decide) _).row1 kR6 (by decide) _
    have twp:∀{s:Sl} {l:List PairL},OwnPairs w4 w.heap.size s l→OwnPairs (((w4.setCell ⟨X,13,none⟩ (.slice a3 h.act.ids.n c3)).setCell ⟨X,14,none⟩ (.slice a4 h.act.pairs.n c4)).setRow (X+1) (deedCells p ⟨s0,s1,⟨a',h.dr.n,c'⟩,⟨⟨a3,h.act.ids.n,c3⟩,⟨a4,h.act.pairs.n,c4⟩⟩⟩).toArray) w.heap.size s l:=
     fun q=>((q.cell1 kX4 (by decide) _).cell1 kX5 (by decide) _).row1 kR6 (by decide) _
    have hz2:=kb.size
    have old:∀{s:Sl} {l:List Int},OwnInts W2 w.heap.size s l→OwnInts w4 w.heap.size s l:=fun q=>((q.old (Below.refl _ _).drew).old hb3).old hb4
    exact ⟨hd.kind,hd.game,hd.table,hd.fmt,hd.n0,hd.n1,two (old k0),two (old k1),two (old k2),⟨hd.act.op,hd.act.side,hd.act.place,hd.act.target,
     two (((OwnInts.ofClone ho3 hd.act.ids).lower hz2).old hb4),twp ((OwnPairs.mk' (s:=⟨a4,h.act.pairs.n,c4⟩) ho4 hd.act.pairs rfl).lower (Nat.le_trans hz2 hb3.size))⟩⟩
   ·exact below_setRow ((((below_step (below_step kb.drew hb3) hb4).setCell (by show w.heap.size≤X;omega) _).setCell (by show w.heap.size≤X;omega) _)) (by omega) _
end
end Go.Proofs.YtioigihakjlopaaGreat
