/- Texts put together and cut to what is used: ImR2, ImRThing. -/
import Derived.Test.YtioigihakjlopaaGreatVB06
namespace Go.Proofs.YtioigihakjlopaaGreat
set_option linter.unusedVariables false
set_option linter.unusedSimpArgs false
section
open Go.RowKit
set_option maxRecDepth 20000
def putRow (cs:Array Value) (i:Nat):List Value→Array Value
 | []=>cs
 |v::l=>putRow (cs.setIfInBounds i v) (i+1) l
theorem putRow_append:∀(l m:List Value) (cs:Array Value) (i:Nat),putRow cs i (l++m)=putRow (putRow cs i l) (i+l.length) m
 | [],m,cs,i=>rfl
 |v::l,m,cs,i=>by
  rw [List.cons_append,putRow,putRow,putRow_append l m,List.length_cons,Nat.add_assoc,Nat.add_comm 1]
theorem putRow_size:∀(l:List Value) (cs:Array Value) (i:Nat),(putRow cs i l).size=cs.size
 | [],cs,i=>rfl
 |v::l,cs,i=>by rw [putRow,putRow_size l];simp
theorem putRow_other:∀(l:List Value) (cs:Array Value) (i j:Nat),j<i∨i+l.length≤j→(putRow cs i l)[j]? =cs[j]?
 | [],cs,i,j,_=>rfl
 |v::l,cs,i,j,h=>by
  rw [putRow,putRow_other l _ _ _ (by simp at h;omega)]
  rw [Array.getElem?_setIfInBounds]
  rw [if_neg (by simp at h;omega)]
theorem putRow_get:∀(l:List Value) (cs:Array Value) (i j:Nat),i+l.length≤cs.size→∀hj:j<l.length,(putRow cs i l)[i+j]? =some l[j]
 |v::l,cs,i,0,h,_=>by
  rw [putRow,putRow_other l _ _ _ (by omega)]
  rw [List.length_cons] at h
  rw [Array.getElem?_setIfInBounds]
  simp
  omega
 |v::l,cs,i,j+1,h,hj=>by
  rw [List.length_cons] at h
  have:=putRow_get l (cs.setIfInBounds i v) (i+1) j (by simp;omega) (by simpa using hj)
  rw [putRow,show i+(j+1)=i+1+j by omega,this]
  rfl
theorem putRow_all {cs:Array Value} {l:List Value} (h:cs.size=l.length):putRow cs 0 l=l.toArray:=by
 apply Array.ext_getElem?
 intro j
 by_cases hj:j<l.length
 ·have:=putRow_get l cs 0 j (by omega) hj
  rw [Nat.zero_add] at this
  rw [this]
  simp [hj]
 ·rw [Array.getElem?_eq_none (by rw [putRow_size];omega),Array.getElem?_eq_none (by simpa using hj)]
def HasRow (cs:Array Value) (i:Nat) (l:List Value):Prop:=∀j (hj:j<l.length),cs[i+j]? =some l[j]
def numAt (bs:List UInt8) (a:Nat):Int:=(rdB ((bs.drop a).take 8)).toInt
def RRes {α:Type} (B:Nat) (w:World) (q:RC) (r:Rd α) (f:α→Array Value) (xb:Nat) (t:TypeId) (e:Ending) (w':World):Prop:=match r with
 | .error p=>e= .panicked (wrongP p)∧RBad w q w' xb t
 | .ok (v,a)=>e= .returned (.tuple #[])∧RGot B w q w' (q.to a) xb (f v) t
abbrev numsV (bs:List UInt8) (a m:Nat):List Value:=(List.range m).map fun j=> .int .i64 (numAt bs (a+8*j))
def NumsR (w:World) (B:Nat) (q:RC) (xb i:Nat) (cs:Array Value) (t:TypeId) (m:Nat) (f:Nat) (v8:Value) (wr:World):Prop:=
 ∃k:Nat,k+f=m∧v8= .int .i64 (k:Int)∧q.at_+8*k≤q.bs.length∧RGot B w q wr (q.to (q.at_+8*k)) xb (putRow cs i (numsV q.bs q.at_ k)) t
set_option maxHeartbeats 2000000 in
theorem nums_r (w:World) (B:Nat) (q:RC) (g m xb i:Nat) (cs:Array Value) (t:TypeId) (hq:RAt w B q) (hB:B≤w.heap.size) (hg:Blk w g ((List.range m).map fun j=>Value.pointer (some ⟨xb,i+j,none⟩)).toArray 209) (hgc:g≠q.c) (hgx:g≠xb) (hx:Blk w xb cs t) (hi:∀j,j<m→∃v,cs[i+j]? =some (.int .i64 v)) (hxB:B≤xb) (hxc:xb≠q.c) (hm:m≤8):
  Calls Tryz.prog 146 #[.pointer (some ⟨q.c,0,none⟩),.slice (some ⟨g,0,none⟩) m m] w fun e w'=>(q.bs.length<q.at_+8*m→e= .panicked (wrongP q.bs.length)∧RBad w q w' xb t)∧
   (q.at_+8*m≤q.bs.length→e= .returned (.tuple #[])∧RGot B w q w' (q.to (q.at_+8*m)) xb (putRow cs i (numsV q.bs q.at_ m)) t):=by
 have hmx:=hq.max
 go_enter Tryz.func146,Tryz.ntmps146
 go_wp2_with fail
 go_loopg [8] m (NumsR w B q xb i cs t m)
 case atStart=>exact ⟨0,by omega,rfl,hq.le,hq,Turn.refl _ _,hx⟩
 case round=>
  obtain ⟨k,hk,rfl,hle,hr⟩:=hrel
  by_cases hlt:k<m
  ·have t0:decide ((k:Int)<(m:Int))=true:=by simp;omega
   have hgr:Blk wr g _ _:=(hr.turn.block g hg.lt (by rintro (h|h);exact hgc h;exact hgx h)).trans hg
   have cg:wr.cell? ⟨g,k,none⟩=some (.pointer (some ⟨xb,i+k,none⟩)):=by rw [hgr.rule];simp [hlt]
   obtain ⟨v,hv⟩:=hi k hlt
   have hv2:(putRow cs i (numsV q.bs q.at_ k))[i+k]? =some (.int .i64 v):=by rw [putRow_other _ _ _ _ (by simp)];exact hv
   have cb:=num_r wr B (q.to (q.at_+8*k)) xb (i+k) _ t v hr.at' (Nat.le_trans hB hr.turn.size) hr.blk hv2 hxB hxc
   have hcc:(q.to (q.at_+8*k)).c=q.c:=rfl
   rw [hcc] at cb
   clear hgr hv hv2
   go_wp2_with fail
   refine cb.mono ?_
   clear cb
   rintro e w2 ⟨h1,h2⟩
   by_cases hmore:q.at_+8*k+8≤q.bs.length
   ·obtain ⟨rfl,hg2⟩:=h2 hmore
    have hr2:RGot B w q w2 (q.to (q.at_+8*(k+1))) xb (putRow cs i (numsV q.bs q.at_ (k+1))) t:=by
     have e1:putRow cs i (numsV q.bs q.at_ (k+1))=(putRow cs i (numsV q.bs q.at_ k)).setIfInBounds (i+k) (.int .i64 (numAt q.bs (q.at_+8*k))):=by
      unfold numsV
      rw [List.range_succ,List.map_append,putRow_append]
      simp [putRow]
     rw [e1]
     exact ⟨hg2.at',(hr.chain (q'':=q.to (q.at_+8*k+8)) hg2 rfl).turn,hg2.blk⟩
    clear h1 h2 hg2
    go_wp2_with fail
    go_roundg (gk-1)
    case measure=>omega
    case rel=>exact ⟨k+1,by omega,by go_num,by omega,hr2⟩
   ·obtain ⟨rfl,hb2⟩:=h1 (by show q.bs.length<q.at_+8*k+8;omega)
    have hb3:RBad w q w2 xb t:=RBad.after hr hx (putRow_size _ _ _) hb2 rfl
    clear h1 h2
    go_wp2_with fail
    exact ⟨rfl,fun _=>⟨rfl,hb3⟩,fun h=>by omega⟩
  ·have hkm:k=m:=by omega
   subst hkm
   have t0:decide ((k:Int)<(k:Int))=false:=by simp
   go_wp2_with fail
   refine bodyPost_end (v:= .tuple #[]) (results_none rfl _ _ _) rfl ⟨fun h=>by omega,fun _=>⟨rfl,hr⟩⟩
set_option maxHeartbeats 2000000 in
theorem small_r (w:World) (B:Nat) (q:RC) (xb i:Nat) (cs:Array Value) (t:TypeId) (z:Int) (hq:RAt w B q) (hB:B≤w.heap.size) (hx:Blk w xb cs t) (hi:cs[i]? =some (.int .i8 z)) (hxB:B≤xb) (hxc:xb≠q.c):
  Calls Tryz.prog 145 #[.pointer (some ⟨q.c,0,none⟩),.pointer (some ⟨xb,i,none⟩)] w (RRes B w q (rdSmall q.bs q.at_) (fun n=>cs.setIfInBounds i (.int .i8 n)) xb t):=by
 have hxl:=hx.lt
 have hcl:=hq.blk.lt
 go_enter Tryz.func145,Tryz.ntmps145
 go_wp2_with fail
 have r1:∀W,Old w.drew W→W.cell? ⟨q.c,1,none⟩=some (.int .i64 (q.at_:Int)):=fun W hW=>by rw [hW.cell (p:=⟨q.c,1,none⟩) hcl];exact hq.blk.rule 1
 have r2:∀W,Old w.drew W→W.cell? ⟨xb,i,none⟩=some (.int .i8 z):=fun W hW=>by rw [hW.cell (p:=⟨xb,i,none⟩) hxl];exact (hx.rule i).trans hi
 refine wp_region_treeR true Old Old.refl Old.trans (.step 0 (.step 1 (.step 2 (.step 3 (.step 4 (.step 5 (.step 6 (.step 7 (.step 8 (.step 9 (.step 10 .done))))))))))) (by kernel_rfl) (by kernel_rfl) (fun c a d v w h=>by cases d<;>exact h) ?_
 repeat (first|(refine tree_skip rfl (by rfl) ?_;simp only [Act.put,List.setIfInBounds_toArray,List.set])|(refine tree_quiet (v:= ?_) rfl rfl (by rfl) ?_ ?_;rotate_left;(intro W hW;go_simp);(try with_reducible rfl);simp only [Act.put,List.setIfInBounds_toArray,List.set]))
 refine tree_loud rfl rfl (by rfl) (fun K hK=> ?_);go_wp2_with fail
 refine hK _ _ ((Below.refl _ _).alloc (Nat.le_refl _) _) ?_
 clear hK K r1 r2
 repeat (first|(refine tree_skip rfl (by rfl) ?_;simp only [Act.put,List.setIfInBounds_toArray,List.set])|(refine tree_quiet (v:= ?_) rfl rfl (by rfl) ?_ ?_;rotate_left;(intro W hW;go_simp);(try with_reducible rfl);simp only [Act.put,List.setIfInBounds_toArray,List.set]))
 refine tree_store rfl rfl (by rfl) (fun K hK=> ?_);go_wp2_with fail;refine tree_done ?_
 go_upto_region 1 with (fail)
 obtain ⟨Y,hY⟩:∃Y,Y=w.heap.size:=⟨_,rfl⟩
 rw [←hY]
 refine wp_forget (fun W=>(∃y:Int,Blk W Y #[.int .i64 y] 3)∧Below w.heap.size w W) ⟨⟨_,by rw [hY];exact (Blk.new w _ _).drew⟩,by (try unfold Kept);repeat (first|assumption|exact Below.refl _ _|exact below_undrew (Below.refl _ _)|exact Below.mono (by assumption) (by first|(simp;done)|(simp;omega)|omega)|refine below_setRow ?_ (by first|(simp;done)|(simp;omega)|omega) _|refine Below.setCell ?_ (by first|(simp;done)|(simp;omega)|omega) _|refine Below.alloc ?_ (by first|(simp;done)|(simp;omega)|omega) _|refine below_drewN ?_ _|refine Below.drew ?_|refine below_undrew ?_|refine below_step ?_ (by assumption))⟩ ?_
 rintro W1 ⟨⟨y0,hn1⟩,hb1⟩
 have hYB:B≤Y:=by omega
 have hYc:Y≠q.c:=by omega
 have hYx:xb≠Y:=by omega
 have hB1:=Nat.le_trans hB hb1.size
 have hq1:=hq.old hb1 hB
 have cb:=num_r W1 B q Y 0 _ _ _ hq1 hB1 hn1 rfl hYB hYc
 have hx1:=hx.old hb1
 have HY:=Lib.hid hY
 clear hY
 go_wp2_with fail
 refine cb.mono ?_
 clear cb
 rintro e w2 ⟨h1,h2⟩
 by_cases hmore:q.at_+8≤q.bs.length
 ·obtain ⟨rfl,hg⟩:=h2 hmore
  clear h1 h2
  have e0:rdNum q.bs q.at_= .ok (numAt q.bs q.at_,q.at_+8):=by unfold rdNum;rw [if_neg (by omega)];rfl
  have cn:=hg.blk.rule
  obtain ⟨n,hn⟩:∃n,n=numAt q.bs q.at_:=⟨_,rfl⟩
  have cn2:w2.cell? ⟨Y,0,none⟩=some (.int .i64 n):=by rw [hn];exact cn 0
  rw [←hn] at e0
  have hbel2:RBad w q w2 xb t:=RGot.loc hb1 hg (Nat.le_of_eq HY.out.symm) rfl hxc hxl
  clear cn hn hn1
  by_cases ho:n< -128∨127<n
  ·have HR:=Lib.hid (show rdSmall q.bs q.at_= .error q.at_ by unfold rdSmall;rw [e0];dsimp only;rw [if_pos ho])
   have HB2:=Lib.hid hbel2
   by_cases o1:n< -128
   ·have d1:decide (n< -128)=true:=by simp;omega
    clear ho
    go_wp2_with fail
    refine ⟨rfl,?_⟩
    rw [HR.out]
    exact ⟨rfl,HB2.out⟩
   ·have d1:decide (n< -128)=false:=by simp;omega
    have d2:decide (127<n)=true:=by simp;omega
    clear ho o1
    go_wp2_with fail
    refine ⟨rfl,?_⟩
    rw [HR.out]
    exact ⟨rfl,HB2.out⟩
  ·have HR:=Lib.hid (show rdSmall q.bs q.at_= .ok (n,q.at_+8) by unfold rdSmall;rw [e0];dsimp only;rw [if_neg ho])
   have d1:decide (n< -128)=false:=by simp;omega
   have d2:decide (127<n)=false:=by simp;omega
   have e2:IntKind.i8.wrap n=n:=by simp only [IntKind.wrap,IntKind.bits,IntKind.signed];simp;omega
   have hx2:Blk w2 xb cs t:=(hg.turn.block xb (Nat.lt_of_lt_of_le hxl hb1.size) (by rintro (h|h);exact hxc h;exact hYx h)).trans hx1
   have cx:=hx2.rule i
   rw [hi] at cx
   have fx:=hx2.free
   have ht:Turn (fun x=>x=q.c∨x=xb) w w2:=(Turn.of_below (F:=fun x=>x=q.c∨x=xb) hb1).trans hg.turn fun x hx=>by
    rcases hx with rfl|rfl
    ·exact .inl (.inl rfl)
    ·exact .inr (by have:=HY.out;omega)
   have hat:=hg.at'
   clear hg ho e0
   go_wp2_with fail
   refine bodyPost_end (v:= .tuple #[]) (results_none rfl _ _ _) rfl ?_
   rw [HR.out]
   refine ⟨rfl,hat.keep (heap_setCell_other _ _ _ _ (Ne.symm hxc)) ((Below.refl _ _).setCell hxB _),ht.setCell (.inl (.inr rfl)) _,?_⟩
   exact hx2.set i (.int .i8 n)
 ·obtain ⟨rfl,hb2⟩:=h1 (by omega)
  have hbel2:RBad w q w2 xb t:=RBad.loc hb1 hb2 (Nat.le_of_eq HY.out.symm) rfl hxc hxl
  have HR:=Lib.hid (show rdSmall q.bs q.at_= .error q.bs.length by unfold rdSmall rdNum;rw [if_pos (by omega)])
  clear h1 h2
  go_wp2_with fail
  refine ⟨rfl,?_⟩
  rw [HR.out]
  exact ⟨rfl,hbel2⟩
section
variable {α:Type} {B:Nat} {w w':World} {q:RC} {r:Rd α} {f:α→Array Value} {xb:Nat} {t:TypeId} {e:Ending}
theorem RRes.err (h:RRes B w q r f xb t e w') {p:Nat} (hr:r= .error p):e= .panicked (wrongP p)∧RBad w q w' xb t:=by subst hr;exact h
theorem RRes.ok (h:RRes B w q r f xb t e w') {v:α} {a:Nat} (hr:r= .ok (v,a)):e= .returned (.tuple #[])∧RGot B w q w' (q.to a) xb (f v) t:=by subst hr;exact h
end
theorem RGot.pre {B:Nat} {w0 w w':World} {q q':RC} {xb:Nat} {cs:Array Value} {t:TypeId} (h:RGot B w q w' q' xb cs t) (hb:Below w0.heap.size w0 w):RGot B w0 q w' q' xb cs t:=
 ⟨h.at',(Turn.of_below (F:=fun x=>x=q.c∨x=xb) hb).trans h.turn (fun _ hk=> .inl hk),h.blk⟩
theorem rd2_err {α:Type} (bs:List UInt8) (a:Nat) (K:Int→Int→Nat→Rd α) (h:bs.length<a+8*2):(thn (rdNum bs a) fun i a=>thn (rdNum bs a) fun c a=>K i c a)= .error bs.length:=by
 unfold rdNum
 by_cases h1:bs.length<a+8
 ·rw [if_pos h1];rfl
 ·rw [if_neg h1]
  dsimp only [thn]
  rw [if_pos (by omega)]
theorem rd2_ok {α:Type} (bs:List UInt8) (a:Nat) (K:Int→Int→Nat→Rd α) (h:a+8*2≤bs.length):(thn (rdNum bs a) fun i a=>thn (rdNum bs a) fun c a=>K i c a)=K (numAt bs a) (numAt bs (a+8)) (a+8*2):=by
 unfold rdNum
 rw [if_neg (by omega)]
 dsimp only [thn]
 rw [if_neg (by omega)]
 rfl
theorem rd3_err {α:Type} (bs:List UInt8) (a:Nat) (K:Int→Int→Int→Nat→Rd α) (h:bs.length<a+8*3):(thn (rdNum bs a) fun i a=>thn (rdNum bs a) fun c a=>thn (rdNum bs a) fun d a=>K i c d a)= .error bs.length:=by
 by_cases h1:bs.length<a+8
 ·unfold rdNum
  rw [if_pos h1];rfl
 ·have:rdNum bs a= .ok (numAt bs a,a+8):=by unfold rdNum;rw [if_neg h1];rfl
  rw [this]
  dsimp only [thn]
  exact rd2_err bs (a+8) (fun c d a'=>K _ c d a') (by omega)
theorem rd3_ok {α:Type} (bs:List UInt8) (a:Nat) (K:Int→Int→Int→Nat→Rd α) (h:a+8*3≤bs.length):(thn (rdNum bs a) fun i a=>thn (rdNum bs a) fun c a=>thn (rdNum bs a) fun d a=>K i c d a)=K (numAt bs a) (numAt bs (a+8)) (numAt bs (a+16)) (a+8*3):=by
 have:rdNum bs a= .ok (numAt bs a,a+8):=by unfold rdNum;rw [if_neg (by omega)];rfl
 rw [this]
 dsimp only [thn]
 exact rd2_ok bs (a+8) (fun c d a'=>K _ c d a') (by omega)
theorem wf64_toInt (a:BitVec 64):wf64 a.toInt:=by
 have h1:=BitVec.toInt_lt (x:=a)
 have h2:=BitVec.le_toInt (x:=a)
 simp only [wf64,Lit.wf,IntKind.min,IntKind.max,IntKind.signed,IntKind.bits]
 simp at h1 h2⊢
 omega
theorem wf64_numAt (bs:List UInt8) (a:Nat):wf64 (numAt bs a):=wf64_toInt _
theorem rdPair_wf {bs:List UInt8} {a:Nat} {u:PairL} {b:Nat} (h:rdPair bs a= .ok (u,b)):u.wf:=by
 unfold rdPair at h
 by_cases hm:a+8*2≤bs.length
 ·rw [rd2_ok bs a (fun i c a=> .ok ((⟨i,c⟩:PairL),a)) hm] at h
  cases h
  exact ⟨wf64_numAt _ _,wf64_numAt _ _⟩
 ·rw [rd2_err bs a (fun i c a=> .ok ((⟨i,c⟩:PairL),a)) (by omega)] at h
  cases h
set_option maxHeartbeats 2000000 in
theorem pair_r (w:World) (B:Nat) (q:RC) (xb i:Nat) (cs:Array Value) (t:TypeId) (u0:PairL) (hq:RAt w B q) (hB:B≤w.heap.size) (hx:Blk w xb cs t) (hi:HasRow cs i u0.cells) (hxB:B≤xb) (hxc:xb≠q.c):
  Calls Tryz.prog 150 #[.pointer (some ⟨q.c,0,none⟩),.pointer (some ⟨xb,i,none⟩)] w (RRes B w q (rdPair q.bs q.at_) (fun u=>putRow cs i u.cells) xb t):=by
 have hi3:∀j,j<2→∃v,cs[i+j]? =some (.int .i64 v):=fun j hj=>by
  have:=hi j (by show j<2;omega)
  rcases (show j=0∨j=1 by omega) with rfl|rfl
  ·exact ⟨_,this⟩
  ·exact ⟨_,this⟩
 have hxcl:=hq.blk.lt
 have hxl:=hx.lt
 go_enter Tryz.func150,Tryz.ntmps150
 go_wp2_with fail
 refine wp_region_treeR false (KeepAt (fun _=>False)) (KeepAt.refl _) (fun _ _ _ h1 h2=>KeepAt.trans h1 h2) (.step 0 (.step 1 (.step 2 (.step 3 (.step 4 (.step 5 (.step 6 (.step 7 (.step 8 .done))))))))) (by kernel_rfl) (by kernel_rfl) (fun c a d v w h=>by cases d<;>exact h) ?_
 repeat (first|(refine tree_skip rfl (by rfl) ?_;simp only [Act.put,List.setIfInBounds_toArray,List.set])|(refine tree_quiet (v:= ?_) rfl rfl (by rfl) ?_ ?_;rotate_left;(intro W hW;go_simp);(try with_reducible rfl);simp only [Act.put,List.setIfInBounds_toArray,List.set]))
 refine tree_loud rfl rfl (by rfl) (fun K hK=> ?_);go_wp2_with fail
 refine hK _ _ ⟨by simp,fun _ h=>h.elim⟩ ?_
 clear hK K
 repeat (first|(refine tree_skip rfl (by rfl) ?_;simp only [Act.put,List.setIfInBounds_toArray,List.set])|(refine tree_quiet (v:= ?_) rfl rfl (by rfl) ?_ ?_;rotate_left;(intro W hW;go_simp);(try with_reducible rfl);simp only [Act.put,List.setIfInBounds_toArray,List.set]))
 refine tree_loud rfl rfl (by rfl) (fun K hK=> ?_);go_wp2_with fail
 have hb1:Below w.heap.size w (w.alloc (.cells #[.pointer (some ⟨xb,i,none⟩),.pointer (some ⟨xb,i+1,none⟩)] 209)).drew:=by (try unfold Kept);repeat (first|assumption|exact Below.refl _ _|exact below_undrew (Below.refl _ _)|exact Below.mono (by assumption) (by first|(simp;done)|(simp;omega)|omega)|refine below_setRow ?_ (by first|(simp;done)|(simp;omega)|omega) _|refine Below.setCell ?_ (by first|(simp;done)|(simp;omega)|omega) _|refine Below.alloc ?_ (by first|(simp;done)|(simp;omega)|omega) _|refine below_drewN ?_ _|refine Below.drew ?_|refine below_undrew ?_|refine below_step ?_ (by assumption))
 have cb:=nums_r _ B q w.heap.size 2 xb i cs _ (hq.old hb1 hB) (Nat.le_trans hB hb1.size) (Blk.new w #[.pointer (some ⟨xb,i,none⟩),.pointer (some ⟨xb,i+1,none⟩)] 209).drew (Nat.ne_of_gt hq.blk.lt) (Nat.ne_of_gt hx.lt) (hx.old hb1) hi3 hxB hxc (by omega)
 refine cb.mono ?_
 clear cb
 rintro e w2 ⟨h1,h2⟩
 by_cases hmore:q.at_+8*2≤q.bs.length
 ·obtain ⟨rfl,hg⟩:=h2 hmore
  have hz2:=hg.turn.size
  replace hg:=hg.pre hb1
  have HR:=Lib.hid (show rdPair q.bs q.at_= .ok (⟨numAt q.bs q.at_,numAt q.bs (q.at_+8)⟩,q.at_+8*2) from rd2_ok q.bs q.at_ (fun i c a=> .ok ((⟨i,c⟩:PairL),a)) hmore)
  clear h1 h2
  go_wp2_with fail
  refine hK _ _ ⟨by simpa using hz2,fun _ h=>h.elim⟩ ?_
  clear hK K
  refine tree_done ?_
  go_wp2_with fail
  refine bodyPost_end (v:= .tuple #[]) (results_none rfl _ _ _) rfl ?_
  rw [HR.out]
  exact ⟨rfl,hg⟩
 ·obtain ⟨rfl,hb2⟩:=h1 (by omega)
  have HR:=Lib.hid (show rdPair q.bs q.at_= .error q.bs.length by unfold rdPair;exact rd2_err q.bs q.at_ _ (by omega))
  have hb3:=RBad.pre hb1 hb2
  clear h1 h2 hK
  go_wp2_with fail
  refine ⟨rfl,?_⟩
  rw [HR.out]
  exact ⟨rfl,hb3⟩
end
end Go.Proofs.YtioigihakjlopaaGreat
