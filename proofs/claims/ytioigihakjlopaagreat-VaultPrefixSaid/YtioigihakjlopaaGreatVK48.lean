/- Texts put together and cut to what is used: VRSames. -/
import Derived.Test.YtioigihakjlopaaGreatVK47
namespace Go.Proofs.YtioigihakjlopaaGreat
set_option linter.unusedVariables false
set_option linter.unusedSimpArgs false
section
open Go.RowKit
set_option maxRecDepth 20000
def plainD (ds:List (DeedP×DeedH)):List DeedP:=ds.map Prod.fst
def SmD (w:World) (n:Nat) (ds es:List (DeedP×DeedH)) (f:Nat) (i:Value) (wr:World):Prop:=
 ∃k:Nat,k+f=n∧i= .int .i64 (k:Int)∧(plainD ds).take k=(plainD es).take k∧Below w.heap.size w wr
theorem plainD_get {ds:List (DeedP×DeedH)} {k:Nat} (h:k<ds.length):(plainD ds).take (k+1)=(plainD ds).take k++ [(ds[k]).1]:=by
 rw [List.take_succ_eq_append_getElem (by rw [plainD,List.length_map];exact h)]
 simp [plainD]
set_option maxHeartbeats 4000000 in
theorem rsames_any (w:World) (a b:Option Addr) (n m c c':Nat) (ds es:List (DeedP×DeedH)) (h1:DeedsAt w a ds) (h2:DeedsAt w b es) (hn:ds.length=n) (hm:es.length=m) (hz:n≤1000000000) (hzm:m≤1000000000):
  Calls Tryz.prog 73 #[.slice a n c,.slice b m c'] w fun e w'=>e= .returned (.bool (decide (plainD ds=plainD es)))∧Below w.heap.size w w':=by
 have HN:=Lib.hid hn
 have HM:=Lib.hid hm
 by_cases hnm:n=m
 ·subst hnm
  clear hn hm hzm
  go_enter Tryz.func73,Tryz.ntmps73
  go_wp2_with fail
  go_loopg [5] n (SmD w n ds es)
  case atStart=>exact ⟨0,by omega,rfl,rfl,Below.refl _ _⟩
  case round=>
   obtain ⟨k,hf,rfl,htk,hbw⟩:=hrel
   have HF:=Lib.hid hf
   have HT:=Lib.hid htk
   clear hf htk
   by_cases hlt:k<n
   ·have t0:decide ((k:Int)<(n:Int))=true:=by simp;omega
    have hkl:k<ds.length:=by rw [HN.out];exact hlt
    have hkr:k<es.length:=by rw [HM.out];exact hlt
    obtain ⟨b1,o1,e1,hbl1,hc1⟩:=h1.elem k hkl
    obtain ⟨b2,o2,e2,hbl2,hc2⟩:=h2.elem k hkr
    subst e1 e2
    have hd1:=((h1.each _ (List.getElem_mem hkl)).old hbw)
    have hd2:=((h2.each _ (List.getElem_mem hkr)).old hbw)
    have HX1:=Lib.hid (plainD_get hkl)
    have HX2:=Lib.hid (plainD_get hkr)
    generalize ds[k]=x at*
    generalize es[k]=y at*
    obtain ⟨p,h⟩:=x
    obtain ⟨q,g⟩:=y
    dsimp only at hc1 hc2 hd1 hd2
    have HX:=Lib.hid (show (plainD ds).take (k+1)=(plainD es).take (k+1)↔p=q by
     rw [HX1.out,HX2.out,HT.out];exact ⟨fun h=>(List.cons.inj (List.append_cancel_left h)).1,fun h=>by rw [h]⟩)
    have HD:=Lib.hid (show ¬p=q→plainD ds≠plainD es from fun hne e=>hne (HX.out.1 (by rw [e])))
    have L1:=Lib.hid (show ∀W,Old wr.drew W→∀j (hj:j<(deedCells p h).length),W.cell? ⟨b1,o1+k*15+j,none⟩=some (deedCells p h)[j] from fun W hW j hj=>by
     rw [(below_step (below_step hbw (Below.refl _ _).drew) hW).cell (show b1<w.heap.size from hbl1)];exact hc1 j hj)
    have L2:=Lib.hid (show ∀W,Old wr.drew W→∀j (hj:j<(deedCells q g).length),W.cell? ⟨b2,o2+k*15+j,none⟩=some (deedCells q g)[j] from fun W hW j hj=>by
     rw [(below_step (below_step hbw (Below.refl _ _).drew) hW).cell (show b2<w.heap.size from hbl2)];exact hc2 j hj)
    clear hc1 hc2
    have cc:=rsame_any p q h g wr.drew (hd1.old (Below.refl _ _).drew) (hd2.old (Below.refl _ _).drew)
    rw [deedVal_cells,deedVal_cells,sameB_eq] at cc
    obtain ⟨s,hs⟩:∃s,s=decide (p=q):=⟨_,rfl⟩
    rw [←hs] at cc
    have HS:=Lib.hid hs
    clear hs
    go_upto_region 6 with fail
    refine wp_region_old (0::1::2::3::4::5::6::7::8::9::[]) (by kernel_rfl) (by kernel_rfl) (fun c a d v w h=>by cases d<;>exact h) ?_
    repeat (first|(refine lex_skip rfl (by rfl) ?_;simp only [Act.put,List.setIfInBounds_toArray,List.set])|(refine lex_quiet (v:= ?_) rfl rfl (by rfl) ?_ ?_;rotate_left;(intro W hW;go_simp);(try with_reducible rfl);simp only [Act.put,List.setIfInBounds_toArray,List.set]))
    refine lex_quiet (v:= .agg (deedCells p h).toArray) rfl rfl (by rfl) (fun W hW=>exec_load_as 40 deedT (.tmp 19) rfl rfl rfl (L1.out W hW) rfl) ?_
    simp only [Act.put,List.setIfInBounds_toArray,List.set]
    repeat (first|(refine lex_skip rfl (by rfl) ?_;simp only [Act.put,List.setIfInBounds_toArray,List.set])|(refine lex_quiet (v:= ?_) rfl rfl (by rfl) ?_ ?_;rotate_left;(intro W hW;go_simp);(try with_reducible rfl);simp only [Act.put,List.setIfInBounds_toArray,List.set]))
    refine lex_quiet (v:= .agg (deedCells q g).toArray) rfl rfl (by rfl) (fun W hW=>exec_load_as 40 deedT (.tmp 23) rfl rfl rfl (L2.out W hW) rfl) ?_
    simp only [Act.put,List.setIfInBounds_toArray,List.set]
    refine lex_loud rfl rfl (by rfl) (fun K hK=> ?_);go_wp2_with fail
    refine cc.mono ?_
    rintro e w2 ⟨rfl,hb2⟩
    go_wp2_with fail
    refine hK _ _ hb2 ?_
    clear hK K
    repeat (first|(refine lex_skip rfl (by rfl) ?_;simp only [Act.put,List.setIfInBounds_toArray,List.set])|(refine lex_quiet (v:= ?_) rfl rfl (by rfl) ?_ ?_;rotate_left;(intro W hW;go_simp);(try with_reducible rfl);simp only [Act.put,List.setIfInBounds_toArray,List.set]))
    refine lex_nil ?_
    clear cc
    have hbw2:Below w.heap.size w w2:=below_step hbw.drew hb2
    cases s with
    |true=>
     have HXe:=Lib.hid (HX.out.2 (of_decide_eq_true HS.out.symm))
     go_wp2_with fail
     go_roundg (gk-1)
     case measure=>have:=HF.out;omega
     case rel=>exact ⟨k+1,by have:=HF.out;omega,by go_num,HXe.out,hbw2⟩
    |false=>
     have hne:=Lib.hid (HD.out (of_decide_eq_false HS.out.symm))
     go_wp2_with fail
     go_ret
     exact ⟨by rw [decide_eq_false hne.out];rfl,hbw2⟩
   ·have t0:decide ((k:Int)<(n:Int))=false:=by simp;omega
    have he:=Lib.hid (show plainD ds=plainD es by
     have:=HT.out
     rwa [List.take_of_length_le (by rw [plainD,List.length_map,HN.out];omega),List.take_of_length_le (by rw [plainD,List.length_map,HM.out];omega)] at this)
    go_wp2_with fail
    go_ret
    exact ⟨by rw [decide_eq_true he.out];rfl,hbw⟩
 ·have hne:plainD ds≠plainD es:=fun e=>hnm (by have:=congrArg List.length e;rw [plainD,plainD,List.length_map,List.length_map] at this;omega)
  rw [decide_eq_false hne]
  have tn:((n:Int) !=(m:Int))=true:=by simp;omega
  clear hn hm
  go_enter Tryz.func73,Tryz.ntmps73
  go_wp2_with fail
  go_ret
  exact ⟨rfl,Below.refl _ _⟩
theorem lsames_any (w:World) (a b:Option Addr) (n m c c':Nat) (ds es:List (DeedP×DeedH)) (h1:DeedsAt w a ds) (h2:DeedsAt w b es) (hn:ds.length=n) (hm:es.length=m) (hz:n≤1000000000) (hzm:m≤1000000000):
  Calls Tryz.prog 23 #[.slice a n c,.slice b m c'] w fun e w'=>e= .returned (.bool (decide (plainD ds=plainD es)))∧Below w.heap.size w w':=by
 have cc:=rsames_any w a b n m c c' ds es h1 h2 hn hm hz hzm
 clear hn hm hz hzm
 generalize decide (plainD ds=plainD es)=R at*
 go_enter Tryz.func23,Tryz.ntmps23
 go_wp2_with fail
 refine cc.mono ?_
 rintro e w2 ⟨rfl,hb2⟩
 clear cc
 go_wp2_with fail
 go_ret
 exact ⟨rfl,hb2⟩
theorem lbegins_any (w:World) (a b:Option Addr) (n m c c':Nat) (ds es:List (DeedP×DeedH)) (h1:DeedsAt w a ds) (h2:DeedsAt w b es) (hn:ds.length=n) (hm:es.length=m) (hz:n≤1000000000) (hzm:m≤1000000000) (hcm:m≤c'):
  Calls Tryz.prog 20 #[.slice a n c,.slice b m c'] w fun e w'=>e= .returned (.bool (decide (plainD ds=(plainD es).take (plainD ds).length)))∧Below w.heap.size w w':=by
 have hl:(plainD ds).length=n:=by rw [plainD,List.length_map];exact hn
 have hlm:(plainD es).length=m:=by rw [plainD,List.length_map];exact hm
 rw [hl]
 by_cases hnm:n≤m
 ·have t0:decide ((n:Int)≤(m:Int))=true:=by simp;omega
  have h2':DeedsAt w b (es.take n):=⟨by
   have:=h2.row.take (n*15)
   have e:(dcells es).take (n*15)=dcells (es.take n):=by
    have e2:dcells es=dcells (es.take n)++dcells (es.drop n):=by
     unfold dcells
     rw [←List.flatMap_append,List.take_append_drop]
    rw [e2,List.take_append_of_le_length (by rw [dcells_len,List.length_take];omega),List.take_of_length_le (by rw [dcells_len,List.length_take];omega)]
   rw [e] at this
   exact this,fun x hx=>h2.each x (List.mem_of_mem_take hx)⟩
  have e3:(plainD es).take n=plainD (es.take n):=by simp [plainD,List.map_take]
  rw [e3]
  have cc:=fun W (hb:Below w.heap.size w W) c2=>lsames_any W a b n n c c2 ds (es.take n) (h1.old hb) (h2'.old hb) hn (by rw [List.length_take];omega) hz hz
  clear hn hm hz hzm hl hlm e3
  generalize decide (plainD ds=plainD (es.take n))=R at*
  go_enter Tryz.func20,Tryz.ntmps20
  go_wp2_with fail
  refine (cc _ (Below.refl _ _) c').mono ?_
  rintro e w2 ⟨rfl,hb2⟩
  clear cc
  go_wp2_with fail
  go_ret
  exact ⟨rfl,hb2⟩
 ·have t0:decide ((n:Int)≤(m:Int))=false:=by simp;omega
  have hne:plainD ds≠(plainD es).take n:=fun e=>by
   have:=congrArg List.length e
   rw [List.length_take] at this
   omega
  rw [decide_eq_false hne]
  clear hn hm hl hlm
  go_enter Tryz.func20,Tryz.ntmps20
  go_wp2_with fail
  go_ret
  exact ⟨rfl,Below.refl _ _⟩
end
end Go.Proofs.YtioigihakjlopaaGreat
