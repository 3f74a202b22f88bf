/- Texts put together and cut to what is used: LogDisk, RDMem, RDPut. -/
import Derived.Test.YtioigihakjlopaaGreatVB29
namespace Go.Proofs.YtioigihakjlopaaGreat
set_option linter.unusedVariables false
set_option linter.unusedSimpArgs false
section
open Go.RowKit Go.Maps
section
variable {w w1 w2 w3:World} {B:Nat} {r:DiskR} {R:LogR}
theorem rowB_blk {a:Option Addr} {c x:Nat} (h:rowB a c=some x):∃ad,a=some ad∧x=ad.block:=by
 unfold rowB at h
 split at h
 ·cases h
 ·rw [Option.map_eq_some_iff] at h
  obtain ⟨ad,h1,rfl⟩:=h
  exact ⟨ad,h1,rfl⟩
theorem rowB_of {a:Option Addr} {c:Nat} {ad:Addr} (h:a=some ad) (hc:0<c):rowB a c=some ad.block:=by
 subst h
 unfold rowB
 rw [if_neg (by omega)];rfl
theorem append_mem (h:DL w1 B r R) (hB:B≤w1.heap.size) {A:Option Addr} {m C:Nat} {l:List UInt8} (hb:Below w1.heap.size w1 w2) (hm:l.length=m) (hx:Own w2 w1.heap.size 5 1 A m C (l.map bv)) {a2:Option Addr} {c2:Nat}
  (h':Own w3 B 22 1 a2 (R.ls.length+1) c2 (R.vs++ [.slice A m C])) (hg:w2.grownBy w3 (rowB R.a R.c)) (hr:rowB a2 c2=rowB R.a R.c∨∃b,rowB a2 c2=some b∧w2.heap.size≤b) (hcnt:R.ls.length<4096) (hlen:l.length≤65536):
  LStep B w1 r R (w3.setCell ⟨R.l,2,none⟩ (.slice a2 (R.ls.length+1) c2)) r {R with a:=a2,c:=c2,vs:=R.vs++ [.slice A m C],ls:=R.ls++ [l]}:=by
 have hc2:0<c2:=by have:=h'.le;omega
 have hrow2:=h.log.rows.old hb
 have hgo:w2.grownBy w3 (Value.slice R.a R.ls.length R.c).ownBlock:=by
  refine ⟨hg.os,hg.tape,hg.output,hg.size,fun k hk hne=>hg.block k hk fun e=> ?_⟩
  obtain ⟨ad,h1,rfl⟩:=rowB_blk e.symm
  rw [h1] at hne
  exact hne rfl
 have hpc:=hrow2.snoc (x:=l) (by decide) hgo hm hx hB h'
 have htF:Turn (fun k=>k=R.l∨∃ad,R.a=some ad∧k=ad.block) w1 (w3.setCell ⟨R.l,2,none⟩ (.slice a2 (R.ls.length+1) c2)):=by
  refine Turn.setCell ?_ (.inl (.inl rfl)) _
  refine (Turn.of_below hb).trans (Turn.of_grown (F:=fun k=>∃ad,R.a=some ad∧k=ad.block) hg fun k e=>rowB_blk e) fun k hk=> .inl (.inr hk)
 have hlf:∀k,(k=R.l∨∃ad,R.a=some ad∧k=ad.block)→lfoot R k:=fun k hk=>hk.elim .inl fun h=> .inr (.inl h)
 have hnew:∀ad,a2=some ad→(∃ad',R.a=some ad'∧ad.block=ad'.block)∨w1.heap.size≤ad.block:=fun ad ha=>by
  have e:=rowB_of ha hc2
  rcases hr with hr|⟨b,hr,hb2⟩
  ·rw [e] at hr
   exact .inl (rowB_blk hr.symm)
  ·rw [e] at hr
   cases hr
   exact .inr (Nat.le_trans hb.size hb2)
 have hA:∀ad m' C',Value.slice (some ad) m' C'= .slice A m C→w1.heap.size≤ad.block:=fun ad m' C' e=>by
  simp only [Value.slice.injEq] at e
  exact (hx.block_lt e.1.symm).1
 have hl3:Blk w3 R.l #[.pointer (some ⟨r.d,0,none⟩),.string R.nm,.slice R.a R.ls.length R.c,.int .i64 (R.sure:Int)] 164:=by
  refine (h.log.blk.old hb).grown hg fun e=> ?_
  obtain ⟨ad,h1,h2⟩:=rowB_blk e
  obtain ⟨_,_,cur,hcur⟩:=h.log.rows.1.block_lt h1
  exact Blk.ne hcur h.log.blk (by decide) h2.symm
 have hother:∀x,x≠R.l→(w3.setCell ⟨R.l,2,none⟩ (.slice a2 (R.ls.length+1) c2)).heap[x]? =w3.heap[x]? :=fun x hx=>heap_setCell_other w3 ⟨R.l,2,none⟩ x _ hx
 have hlog:LogAt (w3.setCell ⟨R.l,2,none⟩ (.slice a2 (R.ls.length+1) c2)) B r.d {R with a:=a2,c:=c2,vs:=R.vs++ [.slice A m C],ls:=R.ls++ [l]}:=by
  refine ⟨h.log.ge,?_,?_,by simp;omega,?_,h.log.nmz,by have:=h.log.sle;simp;omega⟩
  ·have:=hl3.set 2 (.slice a2 (R.ls.length+1) c2)
   simpa using this
  ·rw [show (R.ls++ [l]).length=R.ls.length+1 by simp]
   refine hpc.keep (fun x hx=>hother _ ?_) (fun ad m' C' hm'=>hother _ ?_)
   ·obtain ⟨_,_,cur,hcur⟩:=hpc.1.block_lt hx
    exact Blk.ne hcur hl3 (by decide)
   ·obtain ⟨_,_,cur,hcur⟩:=hpc.inner hm'
    exact Blk.ne hcur hl3 (by decide)
  ·intro x hx
   rcases List.mem_append.1 hx with hx|hx
   ·exact h.log.lens x hx
   ·rw [List.mem_singleton.1 hx];exact hlen
 have hdisk:DiskAt (w3.setCell ⟨R.l,2,none⟩ (.slice a2 (R.ls.length+1) c2)) B r:=h.disk.turn htF fun x hx hF=>h.apart x (hlf x hF) hx
 have hfoot:∀x,lfoot {R with a:=a2,c:=c2,vs:=R.vs++ [.slice A m C],ls:=R.ls++ [l]} x→lfoot R x∨w1.heap.size≤x:=by
  intro x hx
  rcases hx with rfl|⟨ad,ha,rfl⟩|⟨ad,m',C',hm',rfl⟩
  ·exact .inl (.inl rfl)
  ·rcases hnew ad ha with ⟨ad',h1,h2⟩|h1
   ·exact .inl (.inr (.inl ⟨ad',h1,h2⟩))
   ·exact .inr h1
  ·rcases List.mem_append.1 hm' with hm'|hm'
   ·exact .inl (.inr (.inr ⟨ad,m',C',hm',rfl⟩))
   ·exact .inr (hA ad m' C' (List.mem_singleton.1 hm'))
 refine ⟨htF.mono fun k hk=> .inr (hlf k hk),⟨hdisk,hlog,fun x hx hf=> ?_⟩,fun x hx=> ?_,rfl,rfl,rfl⟩
 ·rcases hfoot x hx with h1|h1
  ·exact h.apart x h1 hf
  ·have:=(h.disk.lt hf).2;omega
 ·rcases hx with hx|hx
  ·exact .inl (.inl hx)
  ·rcases hfoot x hx with h1|h1
   ·exact .inl (.inr h1)
   ·exact .inr h1
theorem sure_mem (h:DL w B r R) (n:Nat) (hn:n=R.ls.length):LStep B w r R (w.setCell ⟨R.l,3,none⟩ (.int .i64 (n:Int))) r {R with sure:=n}:=by
 subst hn
 have ht:Turn (fun k=>k=R.l) w (w.setCell ⟨R.l,3,none⟩ (.int .i64 (R.ls.length:Int))):=(Turn.refl (fun k=>k=R.l) w).setCell (x:=⟨R.l,3,none⟩) (.inl rfl) _
 have ho:∀x,x≠R.l→(w.setCell ⟨R.l,3,none⟩ (.int .i64 (R.ls.length:Int))).heap[x]? =w.heap[x]? :=fun x hx=>heap_setCell_other w ⟨R.l,3,none⟩ x _ hx
 refine ⟨ht.mono fun k hk=> .inr (.inl hk),⟨h.disk.turn ht fun x hx e=>h.apart x (.inl e) hx,⟨h.log.ge,?_,?_,h.log.cnt,h.log.lens,h.log.nmz,Nat.le_refl _⟩,h.apart⟩,fun x hx=> .inl hx,rfl,rfl,rfl⟩
 ·have:=h.log.blk.set 3 (.int .i64 (R.ls.length:Int))
  simpa using this
 ·refine h.log.rows.keep (fun x hx=>ho _ ?_) (fun ad m' C' hm'=>ho _ ?_)
  ·obtain ⟨_,_,cur,hcur⟩:=h.log.rows.1.block_lt hx
   exact Blk.ne hcur h.log.blk (by decide)
  ·obtain ⟨_,_,cur,hcur⟩:=h.log.rows.inner hm'
   exact Blk.ne hcur h.log.blk (by decide)
end
def lappE (p:DiskP) (R:LogR) (l:List UInt8):Int:=if recErr l.length≠0 then recErr l.length else if 4096≤R.ls.length then 100 else (appendP p R.nm (record l)).2
def lappD (p:DiskP) (R:LogR) (l:List UInt8):DiskP:=if recErr l.length≠0 then p else if 4096≤R.ls.length then p else (appendP p R.nm (record l)).1
def lappL (p:DiskP) (R:LogR) (l:List UInt8):List (List UInt8):=if lappE p R l=0 then R.ls++ [l] else R.ls
def lappI (p:DiskP) (R:LogR) (l:List UInt8):Int:=if lappE p R l=0 then (R.ls.length:Int) else 0
theorem lapp_full {p:DiskP} {R:LogR} {l:List UInt8} (h:recErr l.length=0) (h2:4096≤R.ls.length):lappE p R l=100∧lappI p R l=0∧lappD p R l=p∧lappL p R l=R.ls:=by
 have e:lappE p R l=100:=by unfold lappE;rw [if_neg (by simp [h]),if_pos h2]
 refine ⟨e,by unfold lappI;rw [e];rfl,by unfold lappD;rw [if_neg (by simp [h]),if_pos h2],by unfold lappL;rw [e];rfl⟩
theorem lapp_bad {p:DiskP} {R:LogR} {l:List UInt8} (h:recErr l.length≠0):lappE p R l=recErr l.length∧lappI p R l=0∧lappD p R l=p∧lappL p R l=R.ls:=by
 have e:lappE p R l=recErr l.length:=by unfold lappE;rw [if_pos h]
 refine ⟨e,by unfold lappI;rw [e,if_neg h],by unfold lappD;rw [if_pos h],by unfold lappL;rw [e,if_neg h]⟩
theorem lapp_fell {p:DiskP} {R:LogR} {l:List UInt8} (h:recErr l.length=0) (h2:¬4096≤R.ls.length) (h3:(appendP p R.nm (record l)).2≠0):lappE p R l=(appendP p R.nm (record l)).2∧lappI p R l=0∧lappD p R l=(appendP p R.nm (record l)).1∧lappL p R l=R.ls:=by
 have e:lappE p R l=(appendP p R.nm (record l)).2:=by unfold lappE;rw [if_neg (by simp [h]),if_neg h2]
 refine ⟨e,by unfold lappI;rw [e,if_neg h3],by unfold lappD;rw [if_neg (by simp [h]),if_neg h2],by unfold lappL;rw [e,if_neg h3]⟩
theorem lapp_ok {p:DiskP} {R:LogR} {l:List UInt8} (h:recErr l.length=0) (h2:¬4096≤R.ls.length) (h3:(appendP p R.nm (record l)).2=0):lappE p R l=0∧lappI p R l=(R.ls.length:Int)∧lappD p R l=(appendP p R.nm (record l)).1∧lappL p R l=R.ls++ [l]:=by
 have e:lappE p R l=0:=by unfold lappE;rw [if_neg (by simp [h]),if_neg h2,h3]
 refine ⟨e,by unfold lappI;rw [e,if_pos rfl],by unfold lappD;rw [if_neg (by simp [h]),if_neg h2],by unfold lappL;rw [e,if_pos rfl]⟩
theorem recErr_ok {l:List UInt8} (h:recErr l.length=0):1≤l.length∧l.length≤65536∧recOut l=record l:=by
 unfold recErr at h
 unfold recOut
 split at h
 ·omega
 ·split at h
  ·omega
  ·exact ⟨by omega,by omega,by rw [if_neg (by omega)]⟩
def LAppRes (B:Nat) (w:World) (r:DiskR) (R:LogR) (l:List UInt8) (e:Ending) (w':World):Prop:=
 e= .returned (.tuple #[.int .i64 (lappI r.p R l),.int .i64 (lappE r.p R l)])∧∃r' R',r'.p=lappD r.p R l∧R'.ls=lappL r.p R l∧R'.sure=R.sure∧LStep B w r R w' r' R'
set_option maxRecDepth 20000 in
set_option maxHeartbeats 4000000 in
theorem lappend_any (w:World) (B:Nat) (r:DiskR) (R:LogR) (h:DL w B r R) (hB:B≤w.heap.size) (a:Option Addr) (len cap:Nat) (l:List UInt8) (hl:BytesAt w a l) (hlen:l.length=len) (hna:l≠ []→∀ad,a=some ad→¬(foot r ad.block∨lfoot R ad.block)):
  Calls Tryz.prog 55 #[.pointer (some ⟨R.l,0,none⟩),.slice a len cap] w fun e w'=>LAppRes B w r R l e w':=by
 have HL:=Lib.hid hlen
 have hrec:=record_all a len cap l w hl hlen
 clear hlen
 have hb0:=h.log.blk.rule
 by_cases he:recErr l.length=0
 ·rw [←HL.out,he] at hrec
  have HO:=Lib.hid (recErr_ok he)
  by_cases hfull:4096≤R.ls.length
  ·have HC:=Lib.hid (lapp_full (p:=r.p) he hfull)
   have t0:decide ((4096:Int)≤(R.ls.length:Int))=true:=by simp;omega
   clear he hfull
   go_enter Tryz.func55,Tryz.ntmps55
   go_wp2_with fail
   rw [HL.out] at hrec
   refine hrec.mono ?_
   clear hrec
   rintro e w1 ⟨a1,n1,c1,rfl,hr1,hn1,hb1⟩
   have h1:=h.old hb1
   have hb1':=h1.log.blk.rule
   clear hb0
   go_wp2_with fail
   go_ret2
   obtain ⟨c1,c2,c3,c4⟩:=HC.out
   exact ⟨by rw [c1,c2];first|rfl|simp,r,R,c3.symm,c4.symm,rfl,LStep.old h hb1⟩
  ·have t0:decide ((4096:Int)≤(R.ls.length:Int))=false:=by simp;omega
   have HF:=Lib.hid hfull
   have HE:=Lib.hid he
   clear he hfull
   go_enter Tryz.func55,Tryz.ntmps55
   go_wp2_with fail
   rw [HL.out] at hrec
   refine hrec.mono ?_
   clear hrec
   rintro e w1 ⟨a1,n1,c1,rfl,hr1,hn1,hb1⟩
   rw [HO.out.2.2] at hr1 hn1
   have h1:=h.old hb1
   have hb1':=h1.log.blk.rule
   have hsz1:=hb1.size
   have hsz1':B≤w1.drew.heap.size:=Nat.le_trans hB hsz1
   have h1d:DL w1.drew B r R:=h1.keep fun _ _=>rfl
   have HN1:=Lib.hid hn1
   have hn1m:n1≤maxLen:=by have:=HO.out.2.1;rw [←hn1,record_length];unfold maxLen;omega
   clear hb0 hn1
   go_wp2_with fail
   have hkl:∀W,KeepAt (fun x=>x=R.l) w1.drew W→Blk W R.l #[.pointer (some ⟨r.d,0,none⟩),.string R.nm,.slice R.a R.ls.length R.c,.int .i64 (R.sure:Int)] 164:=fun W hW=>(hW.2 R.l rfl).trans h1.log.blk
   have l0:=fun W (hW:KeepAt (fun x=>x=R.l) w1.drew W)=>(hkl W hW).rule
   clear hb1'
   refine wp_region_treeR false (KeepAt (fun x=>x=R.l)) (KeepAt.refl _) (fun _ _ _ h1 h2=>KeepAt.trans h1 h2) (.step 0 (.step 1 (.step 2 (.step 3 (.step 4 (.step 5 (.step 6 (.step 7 (.step 8 (.step 9 (.step 10 (.step 11 (.step 12 .done))))))))))))) (by kernel_rfl) (by kernel_rfl) (fun c a d v w h=>by cases d<;>exact h) ?_
   repeat (first|(refine tree_skip rfl (by rfl) ?_;simp only [Act.put,List.setIfInBounds_toArray,List.set])|(refine tree_quiet (v:= ?_) rfl rfl (by rfl) ?_ ?_;rotate_left;(intro W hW;go_simp);(try with_reducible rfl);simp only [Act.put,List.setIfInBounds_toArray,List.set]))
   refine tree_loud rfl rfl (by rfl) (fun K hK=> ?_);go_wp2_with fail
   refine (append_any w1.drew B r R.nm h1.disk.drew hsz1' h1.log.nmz a1 n1 c1 (record l) (hr1.drew) HN1.out hn1m).mono ?_
   rintro e w2 ⟨rfl,r2,hr2,hs2⟩
   have hs12:LStep B w1.drew r R w2 r2 R:=DStep.log hs2 h1d
   refine hK _ _ ⟨hs2.turn.size,fun x hx=>by subst hx;exact hs2.turn.block R.l h1.log.blk.lt (h1.apart R.l (.inl rfl))⟩ ?_
   clear hK K l0 hkl
   repeat (first|(refine tree_skip rfl (by rfl) ?_;simp only [Act.put,List.setIfInBounds_toArray,List.set])|(refine tree_quiet (v:= ?_) rfl rfl (by rfl) ?_ ?_;rotate_left;(intro W hW;go_simp);(try with_reducible rfl);simp only [Act.put,List.setIfInBounds_toArray,List.set]))
   refine tree_done ?_
   have hs02:LStep B w r R w2 r2 R:=(LStep.old h (hb1.drew)).trans hs12
   have h2:=hs12.at'
   have hb2':=h2.log.blk.rule
   have hz2:B≤w2.heap.size:=Nat.le_trans hsz1' hs2.turn.size
   by_cases hap:(appendP r.p R.nm (record l)).2=0
   ·have HC:=Lib.hid (lapp_ok (p:=r.p) (R:=R) HE.out HF.out hap)
    rw [hap]
    have HAP:=Lib.hid hap
    have HR2:=Lib.hid hr2
    clear hap hr2 h1 h1d hs12 hs2 hr1
    go_wp2_with fail
    have hkl:∀W,KeepAt (fun x=>x=R.l) w2.drew W→Blk W R.l #[.pointer (some ⟨r2.d,0,none⟩),.string R.nm,.slice R.a R.ls.length R.c,.int .i64 (R.sure:Int)] 164:=fun W hW=>(hW.2 R.l rfl).trans h2.log.blk
    have l0:=fun W (hW:KeepAt (fun x=>x=R.l) w2.drew W)=>(hkl W hW).rule
    clear hb2'
    refine wp_region_treeR true (KeepAt (fun x=>x=R.l)) (KeepAt.refl _) (fun _ _ _ h1 h2=>KeepAt.trans h1 h2) (.step 0 (.step 1 (.step 2 (.step 3 (.step 4 (.step 5 (.step 6 (.step 7 (.step 8 (.step 9 (.step 10 (.step 11 .done)))))))))))) (by kernel_rfl) (by kernel_rfl) (fun c a d v w h=>by cases d<;>exact h) ?_
    repeat (first|(refine tree_skip rfl (by rfl) ?_;simp only [Act.put,List.setIfInBounds_toArray,List.set])|(refine tree_quiet (v:= ?_) rfl rfl (by rfl) ?_ ?_;rotate_left;(intro W hW;go_simp);(try with_reducible rfl);simp only [Act.put,List.setIfInBounds_toArray,List.set]))
    refine tree_loud rfl rfl (by rfl) (fun K hK=> ?_);go_wp2_with fail
    have hlw:BytesAt w2.drew a l:=RowAt.drew (RowAt.turn hl hs02.turn (hna (fun e=>by have:=HO.out.1;rw [e] at this;simp at this)))
    refine (clone_any a len cap l w2.drew hlw HL.out (by have:=HO.out.2.1;have:=HL.out;omega)).mono ?_
    rintro e w3 ⟨a3,c3,rfl,hown3,hb3⟩
    refine hK _ _ (KeepAt.below hb3 fun x hx=>by subst hx;exact h2.log.blk.lt) ?_
    clear hK K
    repeat (first|(refine tree_skip rfl (by rfl) ?_;simp only [Act.put,List.setIfInBounds_toArray,List.set])|(refine tree_quiet (v:= ?_) rfl rfl (by rfl) ?_ ?_;rotate_left;(intro W hW;go_simp);(try with_reducible rfl);simp only [Act.put,List.setIfInBounds_toArray,List.set]))
    refine tree_loud rfl rfl (by rfl) (fun K hK=> ?_);go_wp2_with fail
    have hbl3:Below w3.heap.size w3 (w3.alloc (.cells #[.slice a3 len c3] 22)):=(Below.refl _ _).alloc (Nat.le_refl _) _
    have hb23:Below w2.heap.size w2 (w3.alloc (.cells #[.slice a3 len c3] 22)):=below_step (below_step (Below.refl _ w2).drew hb3) hbl3
    have hl3:R.l<w3.heap.size:=Nat.lt_of_lt_of_le h2.log.blk.lt (show w2.heap.size≤w3.heap.size from hb3.size)
    refine hK _ _ (KeepAt.below hbl3 fun x hx=>by subst hx;exact hl3) ?_
    clear hK K
    repeat (first|(refine tree_skip rfl (by rfl) ?_;simp only [Act.put,List.setIfInBounds_toArray,List.set])|(refine tree_quiet (v:= ?_) rfl rfl (by rfl) ?_ ?_;rotate_left;(intro W hW;go_simp);(try with_reducible rfl);simp only [Act.put,List.setIfInBounds_toArray,List.set]))
    refine tree_loud rfl rfl (by rfl) (fun K hK=> ?_)
    have hz4:B≤(w3.alloc (.cells #[.slice a3 len c3] 22)).heap.size:=Nat.le_trans hz2 hb23.size
    refine wp_append_fresh (.tmp 46) (.tmp 49) 124 rfl piecesT rfl (h2.log.rows.1.old hb23) rfl (RowAt.new' w3 #[.slice a3 len c3] 22 _ rfl) rfl (by omega) (by exact all_one _ rfl) (by have:=HF.out;unfold maxLen;omega) (by have:=HF.out;omega) hz4 ?_
    intro a4 c4 w4 hown4 hg4 hr4
    have hl4:R.l<(w3.alloc (.cells #[.slice a3 len c3] 22)).heap.size:=Nat.lt_of_lt_of_le hl3 hbl3.size
    have hne4:∀(he:rowB R.a R.c=some R.l),False:=fun e=>by
     obtain ⟨ad,q1,q2⟩:=rowB_blk e
     obtain ⟨_,_,cur,hcur⟩:=h2.log.rows.1.block_lt q1
     exact Blk.ne hcur h2.log.blk (by decide) q2.symm
    refine hK _ _ ⟨hg4.size,fun x hx=>by subst hx;exact hg4.block R.l hl4 fun e=>hne4 e.symm⟩ ?_
    clear hK K l0 hkl
    have HST:=Lib.hid (append_mem h2 hz2 hb23 HL.out (hown3.old hbl3) hown4 hg4 hr4 (by have:=HF.out;omega) HO.out.2.1)
    have hl5:Blk w4 R.l #[.pointer (some ⟨r2.d,0,none⟩),.string R.nm,.slice R.a R.ls.length R.c,.int .i64 (R.sure:Int)] 164:=(h2.log.blk.old hb23).grown hg4 hne4
    have c0:=hl5.rule
    have c1:=hl5.free
    repeat (first|(refine tree_skip rfl (by rfl) ?_;simp only [Act.put,List.setIfInBounds_toArray,List.set])|(refine tree_quiet (v:= ?_) rfl rfl (by rfl) ?_ ?_;rotate_left;(intro W hW;go_simp);(try with_reducible rfl);simp only [Act.put,List.setIfInBounds_toArray,List.set]))
    refine tree_store rfl rfl (by rfl) (fun K hK=> ?_)
    go_wp2_with fail
    refine tree_done ?_
    have c2:(w4.setCell ⟨R.l,2,none⟩ (.slice a4 (R.ls.length+1) c4)).cell? ⟨R.l,2,none⟩=some (.slice a4 (R.ls.length+1) c4):=World.cell?_setCell_same' w4 _ _ (by rw [c0];rfl)
    clear c0 c1
    go_wp2_with fail
    go_ret2
    obtain ⟨q1,q2,q3,q4⟩:=HC.out
    have hw:wrap64 (R.ls.length:Int)=(R.ls.length:Int):=IntWalk.wrap64_in _ (by have:=HF.out;omega)
    refine ⟨by rw [q1,q2];simp [hw],r2,{R with a:=a4,c:=c4,vs:=R.vs++ [.slice a3 len c3],ls:=R.ls++ [l]},HR2.out.trans q3.symm,q4.symm,rfl,hs02.trans HST.out⟩
   ·have HC:=Lib.hid (lapp_fell (p:=r.p) (R:=R) HE.out HF.out hap)
    have HAP:=Lib.hid hap
    have t1:((appendP r.p R.nm (record l)).2==0)=false:=by simpa using hap
    have t2:((appendP r.p R.nm (record l)).2 !=0)=true:=by simpa using hap
    clear hap
    go_wp2_with fail
    go_ret2
    obtain ⟨c1,c2,c3,c4⟩:=HC.out
    exact ⟨by rw [c1,c2];first|rfl|simp,r2,R,hr2.trans c3.symm,c4.symm,rfl,hs02⟩
 ·have HC:=Lib.hid (lapp_bad (p:=r.p) (R:=R) he)
  have HE:=Lib.hid he
  have t0:(recErr len==0)=false:=by rw [←HL.out];simpa using he
  clear he
  go_enter Tryz.func55,Tryz.ntmps55
  go_wp2_with fail
  refine hrec.mono ?_
  clear hrec
  rintro e w1 ⟨a1,n1,c1,rfl,hr1,hn1,hb1⟩
  have h1:=h.old hb1
  have hb1':=h1.log.blk.rule
  clear hb0
  go_wp2_with fail
  go_ret2
  obtain ⟨c1,c2,c3,c4⟩:=HC.out
  exact ⟨by rw [c1,c2,HL.out];first|rfl|simp,r,R,c3.symm,c4.symm,rfl,LStep.old h hb1⟩
def lsyncS (p:DiskP) (R:LogR):Nat:=if (syncP p R.nm).2=0 then R.ls.length else R.sure
set_option maxRecDepth 20000 in
set_option maxHeartbeats 2000000 in
theorem lsync_any (w:World) (B:Nat) (r:DiskR) (R:LogR) (h:DL w B r R) (hB:B≤w.heap.size):
  Calls Tryz.prog 57 #[.pointer (some ⟨R.l,0,none⟩)] w fun e w'=>e= .returned (.int .i64 (syncP r.p R.nm).2)∧∃r' R',r'.p=(syncP r.p R.nm).1∧R'.ls=R.ls∧R'.sure=lsyncS r.p R∧LStep B w r R w' r' R':=by
 have hkl:∀W,KeepAt (fun x=>x=R.l) w.drew W→Blk W R.l #[.pointer (some ⟨r.d,0,none⟩),.string R.nm,.slice R.a R.ls.length R.c,.int .i64 (R.sure:Int)] 164:=fun W hW=>(hW.2 R.l rfl).trans h.log.blk
 have l0:=fun W (hW:KeepAt (fun x=>x=R.l) w.drew W)=>(hkl W hW).rule
 have hd:DL w.drew B r R:=h.keep fun _ _=>rfl
 go_enter Tryz.func57,Tryz.ntmps57
 go_wp2_with fail
 refine wp_region_treeR false (KeepAt (fun x=>x=R.l)) (KeepAt.refl _) (fun _ _ _ h1 h2=>KeepAt.trans h1 h2) (.step 0 (.step 1 (.step 2 (.step 3 (.step 4 (.step 5 (.step 6 (.step 7 (.step 8 (.step 9 (.step 10 (.step 11 .done)))))))))))) (by kernel_rfl) (by kernel_rfl) (fun c a d v w h=>by cases d<;>exact h) ?_
 repeat (first|(refine tree_skip rfl (by rfl) ?_;simp only [Act.put,List.setIfInBounds_toArray,List.set])|(refine tree_quiet (v:= ?_) rfl rfl (by rfl) ?_ ?_;rotate_left;(intro W hW;go_simp);(try with_reducible rfl);simp only [Act.put,List.setIfInBounds_toArray,List.set]))
 refine tree_loud rfl rfl (by rfl) (fun K hK=> ?_);go_wp2_with fail
 refine (sync_any w.drew B r R.nm h.disk.drew hB h.log.nmz).mono ?_
 rintro e w2 ⟨rfl,r2,hr2,hs2⟩
 have hs12:LStep B w.drew r R w2 r2 R:=DStep.log hs2 hd
 have hs02:LStep B w r R w2 r2 R:=(LStep.old h ((Below.refl _ w).drew)).trans hs12
 refine hK _ _ ⟨hs2.turn.size,fun x hx=>by subst hx;exact hs2.turn.block R.l h.log.blk.lt (h.apart R.l (.inl rfl))⟩ ?_
 clear hK K l0 hkl
 repeat (first|(refine tree_skip rfl (by rfl) ?_;simp only [Act.put,List.setIfInBounds_toArray,List.set])|(refine tree_quiet (v:= ?_) rfl rfl (by rfl) ?_ ?_;rotate_left;(intro W hW;go_simp);(try with_reducible rfl);simp only [Act.put,List.setIfInBounds_toArray,List.set]))
 refine tree_done ?_
 have h2:=hs12.at'
 have c0:=h2.log.blk.rule
 have c1:=h2.log.blk.free
 by_cases hap:(syncP r.p R.nm).2=0
 ·have HR:=Lib.hid hr2
  have HST:=Lib.hid (sure_mem h2 R.ls.length rfl)
  have HAP:=Lib.hid hap
  rw [hap]
  clear hr2 hap
  go_wp2_with fail
  go_ret
  exact ⟨by rw [HAP.out];first|rfl|simp,r2,{R with sure:=R.ls.length},HR.out,rfl,by unfold lsyncS;rw [if_pos HAP.out],hs02.trans HST.out⟩
 ·have t1:((syncP r.p R.nm).2==0)=false:=by simpa using hap
  have HAP:=Lib.hid hap
  clear hap
  go_wp2_with fail
  go_ret
  exact ⟨rfl,r2,R,hr2,rfl,by unfold lsyncS;rw [if_neg HAP.out],hs02⟩
theorem scan_lens (f:Nat) (b:List UInt8):∀x∈(scan f b).1,x.length≤65536:=by
 induction f generalizing b with
 |zero=>simp [scan]
 |succ f ih=>
  by_cases h:scans b=true
  ·rw [scan_step h]
   intro x hx
   rcases List.mem_cons.1 hx with rfl|hx
   ·unfold scans at h
    simp only [Bool.and_eq_true,decide_eq_true_eq] at h
    unfold loadOf
    rw [List.length_take]
    omega
   ·exact ih _ x hx
  ·rw [scan_stop (by simpa using h)]
   simp
theorem readP_len {p:DiskP} (h:DiskOk p) (nm:Name):(readP p nm).1.length≤1048576:=by
 unfold readP
 split
 ·simp
 ·cases hf:findP p nm with
  |none=>simp
  |some f=>exact h.size f (findP_mem hf).1
def LOpenRes (B:Nat) (w:World) (r:DiskR) (nm:Name) (e:Ending) (w':World):Prop:=
 ∃r',r'.p=openD r.p nm∧DStep B w r w' r'∧
  ((openE r.p nm≠0∧e= .returned (.tuple #[.pointer none,.int .i64 0,.int .i64 (openE r.p nm)]))∨
   (openE r.p nm=0∧∃R,e= .returned (.tuple #[.pointer (some ⟨R.l,0,none⟩),.int .i64 (openN r.p nm:Int),.int .i64 0])∧DL w' B r' R∧R.nm=nm∧R.ls=(openB r.p nm).1∧R.sure=R.ls.length∧∀x,lfoot R x→w.heap.size≤x))
theorem openE_mk {p:DiskP} {nm:Name} (h:(openMk p nm).2≠0):openE p nm=(openMk p nm).2∧openD p nm=(openMk p nm).1:=⟨by unfold openE;rw [if_pos h],by unfold openD;rw [if_pos h]⟩
theorem openE_cut {p:DiskP} {nm:Name} (h:(openMk p nm).2=0) (h2:(openCut p nm).2≠0):openE p nm=(openCut p nm).2∧openD p nm=(openCut p nm).1:=
 ⟨by unfold openE;rw [if_neg (by simp [h]),if_pos h2],by unfold openD;rw [if_neg (by simp [h]),if_pos h2]⟩
theorem openE_sync {p:DiskP} {nm:Name} (h:(openMk p nm).2=0) (h2:(openCut p nm).2=0):openE p nm=(openSync p nm).2∧openD p nm=(openSync p nm).1:=
 ⟨by unfold openE;rw [if_neg (by simp [h]),if_neg (by simp [h2])],by unfold openD;rw [if_neg (by simp [h]),if_neg (by simp [h2])]⟩
theorem new_log {w0 w:World} {B:Nat} {r:DiskR} {nm:Name} (h:DiskAt w B r) (h0:w0.heap.size≤w.heap.size) (hB:B≤w0.heap.size) (hs:nm.size≤maxLen) {a:Option Addr} {n c:Nat} {vs:List Value} {ls:List (List UInt8)} (hp:OwnPieces w w0.heap.size 22 5 a n c vs ls) (hcnt:ls.length≤4096) (hlen:∀x∈ls,x.length≤65536)
  (hna:∀x,((∃ad,a=some ad∧x=ad.block)∨∃ad m C,Value.slice (some ad) m C∈vs∧x=ad.block)→¬foot r x):
  DL (w.alloc (.cells #[.pointer (some ⟨r.d,0,none⟩),.string nm,.slice a n c,.int .i64 (n:Int)] 164)) B r ⟨w.heap.size,nm,a,c,vs,ls,ls.length⟩:=by
 have hn:=hp.length
 subst hn
 have hb:Below w.heap.size w (w.alloc (.cells #[.pointer (some ⟨r.d,0,none⟩),.string nm,.slice a ls.length c,.int .i64 (ls.length:Int)] 164)):=(Below.refl _ _).alloc (Nat.le_refl _) _
 refine ⟨h.old hb,⟨Nat.le_trans hB h0,Blk.new _ _ _,(hp.lower hB).old hb,hcnt,hlen,hs,Nat.le_refl _⟩,fun x hx hf=> ?_⟩
 rcases hx with rfl|hx
 ·have:=(h.lt hf).2
  exact Nat.lt_irrefl _ this
 ·exact hna x hx hf
set_option maxRecDepth 20000 in
set_option maxHeartbeats 4000000 in
theorem lopen_any (w:World) (B:Nat) (r:DiskR) (nm:Name) (h:DiskAt w B r) (hB:B≤w.heap.size) (hs:nm.size≤maxLen):
  Calls Tryz.prog 47 #[.pointer (some ⟨r.d,0,none⟩),.string nm] w fun e w'=>LOpenRes B w r nm e w':=by
 have HRL:=Lib.hid (readP_len h.ok nm)
 go_enter Tryz.func47,Tryz.ntmps47
 go_wp2_with fail
 refine (read_any w B r nm h hs).mono ?_
 rintro e w1 ⟨a,n,c,rfl,hn,hown,hb1⟩
 have HN:=Lib.hid hn
 have h1:=h.old hb1
 have hs1:DStep B w r w1 r:=⟨Turn.of_below hb1,h1,fun _ hx=> .inl hx,rfl⟩
 have hz1:B≤w1.heap.size:=Nat.le_trans hB hb1.size
 clear hn
 go_upto_if 19 with (fail)
 go_cut [6] from 19 (fun v wx=>v= .int .i64 (openMk r.p nm).2∧∃r1,r1.p=(openMk r.p nm).1∧DStep B w r wx r1∧(∀x,foot r1 x→foot r x∨w1.heap.size≤x)∧wx.heap.size≥w1.heap.size∧Own wx w.heap.size 5 1 a n c ((readP r.p nm).1.map bv))
 case first=>
  by_cases h4:(readP r.p nm).2=4
  ·have t0:((readP r.p nm).2==4)=true:=by simpa using h4
   have HM:=Lib.hid (show openMk r.p nm=makeP r.p nm by unfold openMk;rw [if_pos h4])
   clear h4
   go_wp2_with fail
   refine (make_any w1 B r nm h1 hz1 hs).mono ?_
   rintro e w2 ⟨rfl,r1,hr1,hs2⟩
   go_wp2_with fail
   go_meet
   case rel=>
    rw [HM.out]
    exact ⟨rfl,r1,hr1,hs1.trans hs2,hs2.foot',hs2.turn.size,hown.keepAt fun x hx=>hs2.turn.block x.block (hown.block_lt hx).2.1 (fun hf=>by
     have g1:=(hown.block_lt hx).1
     have g2:=(h.lt hf).2
     omega)⟩
  ·have t0:((readP r.p nm).2==4)=false:=by simpa using h4
   have HM:=Lib.hid (show openMk r.p nm=(r.p,(readP r.p nm).2) by unfold openMk;rw [if_neg h4])
   clear h4
   go_wp2_with fail
   go_meet
   case rel=>
    rw [HM.out]
    exact ⟨rfl,r,rfl,hs1,fun x hx=> .inl hx,Nat.le_refl _,hown⟩
 case rest=>
  obtain ⟨wa,rfl⟩:∃wa:World,wa=wc:=⟨_,rfl⟩
  obtain ⟨rfl,r1,hr1,hs2,hf1,hz2,hown1⟩:=hcut
  have h2:=hs2.at'
  have HR1:=Lib.hid hr1
  have hd1:=hs2.d
  have hzc:B≤wa.heap.size:=Nat.le_trans hz1 hz2
  clear hr1 hown h1 hs1
  by_cases hmk:(openMk r.p nm).2=0
  ·have HMK:=Lib.hid hmk
   rw [hmk]
   clear hmk
   have hsc:=scan_any a n c (readP r.p nm).1 wa hown1.row HN.out (by have:=HRL.out;have:=HN.out;omega) hown1.le
   rw [show scan most (readP r.p nm).1=openB r.p nm from rfl] at hsc
   obtain ⟨bad,hbd⟩:∃bad,bad=(openB r.p nm).2.length:=⟨_,rfl⟩
   have hble:bad≤n:=by have:=scan_left most (readP r.p nm).1;have:=HN.out;rw [hbd];show (scan most (readP r.p nm).1).2.length≤n;omega
   rw [←hbd] at hsc
   have HBD:=Lib.hid hbd
   clear hbd
   go_step
   go_wp2_with fail
   refine hsc.mono ?_
   clear hsc
   rintro e w3 ⟨a2,n2,c2,vs,rfl,hp3,hb3⟩
   have hn2:n2≤4096:=by have h9:(openB r.p nm).1.length≤most:=scan_count most _;have:=hp3.length;have:=most_is;omega
   have hnn:n≤1048576:=by have:=HRL.out;have:=HN.out;omega
   have h3:=h2.old hb3
   have hz3:B≤w3.heap.size:=Nat.le_trans hzc hb3.size
   have hf3:∀x,foot r1 x→x<wa.heap.size:=fun x hx=>(h2.lt hx).2
   have hs3:DStep B w r w3 r1:=hs2.trans ⟨Turn.of_below hb3,h3,fun _ hx=> .inl hx,rfl⟩
   have hbel3:=hb3.size
   clear hown1 hs2
   go_upto_if 32 with (fail)
   go_cut [] from 32 (fun wx=>(openCut r.p nm).2=0∧∃r2,r2.p=(openCut r.p nm).1∧DStep B w r wx r2∧(∀x,foot r2 x→x<wa.heap.size∨w3.heap.size≤x)∧w3.heap.size≤wx.heap.size∧OwnPieces wx wa.heap.size 22 5 a2 n2 c2 vs (openB r.p nm).1)
   case first=>
    by_cases hbad:bad=0
    ·have HC:=Lib.hid (show openCut r.p nm=((openMk r.p nm).1,0) by unfold openCut;rw [←HBD.out,if_pos hbad])
     have t2:¬0<bad:=by omega
     have HB:=Lib.hid hbad
     clear hbad
     go_wp2_with fail
     go_meet
     case rel=>
      rw [HC.out]
      exact ⟨rfl,r1,HR1.out,hs3,fun x hx=> .inl (hf3 x hx),Nat.le_refl _,hp3⟩
    ·have HC:=Lib.hid (show openCut r.p nm=cutP (openMk r.p nm).1 nm (((readP r.p nm).1.length-bad:Nat):Int) by unfold openCut;rw [←HBD.out,if_neg hbad])
     have t2:0<bad:=by omega
     have HB:=Lib.hid hbad
     clear hbad
     have hc:=cut_any w3 B r1 nm ((n:Int)-(bad:Int)) h3 hs
     have HCC:=Lib.hid (show cutP r1.p nm ((n:Int)-(bad:Int))=openCut r.p nm by
      rw [HC.out,HR1.out,HN.out,show ((n-bad:Nat):Int)=(n:Int)-(bad:Int) from by omega])
     rw [HCC.out,hd1] at hc
     go_wp2_with fail
     refine hc.mono ?_
     clear hc
     rintro e w4 ⟨rfl,r2,hr2,hs4⟩
     by_cases hcu:(openCut r.p nm).2=0
     ·have HCU:=Lib.hid hcu
      rw [hcu]
      clear hcu
      go_wp2_with fail
      go_meet
      case rel=>
       refine ⟨HCU.out,r2,hr2,hs3.trans hs4,fun x hx=> ?_,hs4.turn.size,?_⟩
       ·rcases hs4.foot' x hx with g|g
        ·exact .inl (hf3 x g)
        ·exact .inr g
       ·refine hp3.keep (fun x hx=>hs4.turn.block x.block (hp3.1.block_lt hx).2.1 fun hf=> ?_) (fun ad m C hm=>hs4.turn.block ad.block (hp3.inner hm).2.1 fun hf=> ?_)
        ·have g1:=hf3 _ hf;have g2:=(hp3.1.block_lt hx).1;omega
        ·have g1:=hf3 _ hf;have g2:=(hp3.inner hm).1;omega
     ·have HE:=Lib.hid (openE_cut HMK.out hcu)
      have t3:((openCut r.p nm).2 !=0)=true:=by simpa using hcu
      have HCU:=Lib.hid hcu
      clear hcu
      go_wp2_with fail
      go_ret3
      refine ⟨r2,hr2.trans HE.out.2.symm,hs3.trans hs4,.inl ⟨by rw [HE.out.1];exact HCU.out,?_⟩⟩
      rw [HE.out.1]
      first|rfl|simp
   case rest=>
    obtain ⟨hcu,r2,hr2,hs4,hf4,hz4,hp4⟩:=hcut
    have h4:=hs4.at'
    have HES:=Lib.hid (openE_sync HMK.out hcu)
    have HR2:=Lib.hid hr2
    have hB4:B≤wc.heap.size:=Nat.le_trans hz3 hz4
    have hsy:=sync_any wc B r2 nm h4 hB4 hs
    rw [hr2,show syncP (openCut r.p nm).1 nm=openSync r.p nm from rfl,hs4.d] at hsy
    clear hr2 hcu
    go_step
    go_wp2_with fail
    refine hsy.mono ?_
    clear hsy
    rintro e w5 ⟨rfl,r3,hr3,hs5⟩
    have h5:=hs5.at'
    by_cases hsy:(openSync r.p nm).2=0
    ·have HS:=Lib.hid (show openE r.p nm=0 by rw [HES.out.1];exact hsy)
     rw [hsy]
     have hd5:r3.d=r.d:=hs5.d.trans hs4.d
     have hp5:OwnPieces w5 wa.heap.size 22 5 a2 n2 c2 vs (openB r.p nm).1:=by
      refine hp4.keep (fun x hx=>hs5.turn.block x.block (hp4.1.block_lt hx).2.1 fun hf=> ?_) (fun ad m C hm=>hs5.turn.block ad.block (hp4.inner hm).2.1 fun hf=> ?_)
      ·rcases hf4 _ hf with g|g
       ·have:=(hp4.1.block_lt hx).1;omega
       ·have:=(hp3.1.block_lt hx).2.1;omega
      ·rcases hf4 _ hf with g|g
       ·have:=(hp4.inner hm).1;omega
       ·have:=(hp3.inner hm).2.1;omega
     have hz5:wa.heap.size≤w5.heap.size:=Nat.le_trans hb3.size (Nat.le_trans hz4 hs5.turn.size)
     have HNL:=Lib.hid (new_log h5 hz5 hzc hs hp5 (by have:=hp3.length;omega) (scan_lens most _) (fun x hx hf=>by
      have g0:wa.heap.size≤x∧x<w3.heap.size:=by
       rcases hx with ⟨ad,q1,rfl⟩|⟨ad,m,C,q1,rfl⟩
       ·exact ⟨(hp3.1.block_lt q1).1,(hp3.1.block_lt q1).2.1⟩
       ·exact ⟨(hp3.inner q1).1,(hp3.inner q1).2.1⟩
      rcases hs5.foot' x hf with g|g
      ·rcases hf4 x g with g|g<;>omega
      ·omega))
     rw [hd5] at HNL
     have HSS:=Lib.hid (hs4.trans hs5)
     have HLE:=Lib.hid (And.intro (hp3.length) (fun x (hx:lfoot ⟨w5.heap.size,nm,a2,c2,vs,(openB r.p nm).1,(openB r.p nm).1.length⟩ x)=>show w.heap.size≤x by
      rcases hx with rfl|⟨ad,q1,rfl⟩|⟨ad,m,C,q1,rfl⟩
      ·exact Nat.le_trans hb1.size (Nat.le_trans hz2 hz5)
      ·exact Nat.le_trans hb1.size (Nat.le_trans hz2 (hp3.1.block_lt q1).1)
      ·exact Nat.le_trans hb1.size (Nat.le_trans hz2 (hp3.inner q1).1)))
     have HR3:=Lib.hid hr3
     clear hsy hp5 hp4 hp3 hs4 hs5 h5 h4 h3 h2 hs3 hr3 hf4 hf3 hd5 hf1
     go_wp2_with fail
     go_ret3
     have eN:openN r.p nm=bad:=by unfold openN;rw [if_pos HS.out];exact HBD.out.symm
     refine ⟨r3,HR3.out.trans HES.out.2.symm,HSS.out.trans ⟨Turn.of_below ((Below.refl _ _).alloc (Nat.le_refl _) _),HNL.out.disk,fun _ hx=> .inl hx,rfl⟩,.inr ⟨HS.out,⟨w5.heap.size,nm,a2,c2,vs,(openB r.p nm).1,(openB r.p nm).1.length⟩,?_,HNL.out,rfl,rfl,rfl,HLE.out.2⟩⟩
     rw [eN]
     first|rfl|simp
    ·have t3:((openSync r.p nm).2 !=0)=true:=by simpa using hsy
     have HSY:=Lib.hid hsy
     clear hsy
     go_wp2_with fail
     go_ret3
     refine ⟨r3,hr3.trans HES.out.2.symm,hs4.trans hs5,.inl ⟨by rw [HES.out.1];exact HSY.out,?_⟩⟩
     rw [HES.out.1]
     first|rfl|simp
  ·have HE:=Lib.hid (openE_mk hmk)
   have t1:((openMk r.p nm).2 !=0)=true:=by simpa using hmk
   have HMK:=Lib.hid hmk
   clear hmk
   go_step
   go_wp2_with fail
   go_ret3
   refine ⟨r1,HR1.out.trans HE.out.2.symm,hs2,.inl ⟨by rw [HE.out.1];exact HMK.out,?_⟩⟩
   rw [HE.out.1]
   first|rfl|simp
structure FileQ where
 nm:Name
 a:Option Addr
 c:Nat
 b:List UInt8
 sure:Nat
theorem DiskOk.sub {p:DiskP} (h:DiskOk p) {fs:List FileP} (hs:fs.Sublist p.fs):DiskOk {p with fs:=fs}:=
 ⟨(hs.map _).nodup h.names,fun f hf=>h.named f (hs.subset hf),fun f hf=>h.sure f (hs.subset hf),fun f hf=>h.size f (hs.subset hf),Nat.le_trans hs.length_le h.count,h.left⟩
section
variable {P:Program}
theorem run_append_where (t ty:TypeId) {e:TypeId} {size bytes:Nat} (hT:RowType P t e size bytes) {w:World} {B:Nat} {sa:Option Addr} {n sc:Nat} {vs:List Value} (h:Own w B e size sa n sc vs)
  {xa:Option Addr} {m xc:Nat} {news:List Value} (hrow:RowAt w xa news) (hl:news.length=m*size) (hm:0<m) (h1:∀u∈news,u.oneCell'=true) (h63:n+m≤maxLen) (hbytes:(n+m)*bytes≤140737488355328) (hB:B≤w.heap.size):
  ∃b c' w',(Builtin.append_ #[t,t] ty #[.slice sa n sc,.slice xa m xc]).run P w= .ok (.slice (some ⟨b,0,none⟩) (n+m) c') w'∧Own w' B e size (some ⟨b,0,none⟩) (n+m) c' (vs++news)∧w.grownBy w' (Value.slice sa n sc).ownBlock∧
   ((∃ad,sa=some ad∧b=ad.block)∨w.heap.size≤b):=by
 obtain ⟨ht,hsz,i,z,hi,hz,hsize,hby,hzs⟩:=hT
 obtain ⟨b0,o0,rfl,_⟩:=hrow 0 (by rw [hl];exact Nat.mul_pos hm hsz)
 have hnews:∀j u,news[j]? =some u→w.cell? ((⟨b0,o0,none⟩:Addr).add j)=some u:=fun j u hu=>by
  obtain ⟨hj,rfl⟩:=List.getElem?_eq_some_iff.1 hu
  obtain ⟨b',o',he,hc⟩:=hrow j hj
  cases he
  rw [Addr.add_mid];exact hc
 obtain ⟨v',w2,q0,q1,q2,_⟩:=run_append_own (P:=P) w B t ty e i z size bytes ht hi hz hsize hby hzs hsz (.slice sa n sc) n vs h ⟨b0,o0,none⟩ m xc news hl hnews h1 h63 hbytes hB
 have h63':n+m≤9223372036854775807:=by simp only [maxLen] at h63;omega
 subst hsize
 subst hby
 rcases h.2 with ⟨k1,k2⟩|⟨g,cap,cur,k1,hbg,hg,hnc,hcm,hcs,htake⟩
 ·simp only [Value.slice.injEq] at k1
  obtain ⟨rfl,rfl,rfl⟩:=k1
  have hx:vs=[]:=List.eq_nil_of_length_eq_zero (by simpa using h.1)
  subst hx
  have hr:=run_append_nil (P:=P) w t ty e i z ht hi hz ⟨b0,o0,none⟩ m xc news hl hnews (by omega) (by omega) (by have hb:=hbytes;simp only [Nat.zero_add] at hb;omega)
  rw [hr] at q0
  simp only [Result.ok.injEq] at q0
  obtain ⟨rfl,rfl⟩:=q0
  rw [show m=0+m from (Nat.zero_add m).symm] at hr
  exact ⟨_,_,_,by simpa using hr,by simpa [Own] using q1,q2,.inr (Nat.le_refl _)⟩
 ·simp only [Value.slice.injEq] at k1
  obtain ⟨rfl,-,rfl⟩:=k1
  by_cases hroom:n+m≤sc
  ·have hfit:n*i.size+news.length≤cur.size:=by rw [hl,hcs,←Nat.add_mul];exact Nat.mul_le_mul_right _ hroom
   have hr:=run_append_room (P:=P) w t ty e i ht hi g n sc cur hg ⟨b0,o0,none⟩ m xc news hl hnews h1 hroom hfit
   rw [hr] at q0
   simp only [Result.ok.injEq] at q0
   obtain ⟨rfl,rfl⟩:=q0
   exact ⟨_,_,_,hr,q1,q2,.inl ⟨_,rfl,rfl⟩⟩
  ·have hr:=run_append_grow (P:=P) w t ty e i z ht hi hz ⟨g,0,none⟩ n sc vs h.1 (World.ownsRow.cells h (g:=g) rfl) ⟨b0,o0,none⟩ m xc news hl hnews (by omega) (by omega) (growslice_fits (by omega) hbytes)
   rw [hr] at q0
   simp only [Result.ok.injEq] at q0
   obtain ⟨rfl,rfl⟩:=q0
   exact ⟨_,_,_,hr,q1,q2,.inr (Nat.le_refl _)⟩
theorem wp_append_where {w:World} {o:Oper} {a:Act} {K:Act→World→Prop} {Q:Exit→Act→World→Prop} (s x:Operand) (t:TypeId) (ho:o.op= .call {callee:= .builtin .append,args:= #[s,x],argTypes:= #[t,t]})
  {e:TypeId} {size bytes:Nat} (hT:RowType P t e size bytes) {B:Nat} {sa:Option Addr} {n sc:Nat} {vs:List Value} (hs:a.eval s= .slice sa n sc) (h:Own w B e size sa n sc vs)
  {xa:Option Addr} {m xc:Nat} {news:List Value} (hx:a.eval x= .slice xa m xc) (hrow:RowAt w xa news) (hl:news.length=m*size) (hm:0<m) (h1:∀u∈news,u.oneCell'=true) (h63:n+m≤maxLen) (hbytes:(n+m)*bytes≤140737488355328) (hB:B≤w.heap.size)
  (hK:∀b c' w',Own w' B e size (some ⟨b,0,none⟩) (n+m) c' (vs++news)→w.grownBy w' (Value.slice sa n sc).ownBlock→((∃ad,sa=some ad∧b=ad.block)∨w.heap.size≤b)→K (a.put o.dst (.slice (some ⟨b,0,none⟩) (n+m) c')) w'):o.wp P a w K Q:=by
 obtain ⟨b,c',w',hrun,r1,r2,r3⟩:=run_append_where (P:=P) t o.type hT h hrow hl hm h1 h63 hbytes hB (xc:=xc)
 unfold Oper.wp
 simp [execOp,ho,resolve,invoke,builtin,hs,hx,hrun,Result.andThen]
 exact hK b c' w' r1 r2 r3
end
end
end Go.Proofs.YtioigihakjlopaaGreat
