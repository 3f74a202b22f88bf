/- Texts put together and cut to what is used: RDName, DiskMore, DCopy, VWake. -/
import Derived.Test.YtioigihakjlopaaGreatVK44
import Derived.Test.YtioigihakjlopaaGreatVK46
import Derived.Test.YtioigihakjlopaaGreatVK49
namespace Go.Proofs.YtioigihakjlopaaGreat
set_option linter.unusedVariables false
set_option linter.unusedSimpArgs false
section
open Go.RowKit Go.Maps
structure Like (p q:DiskP):Prop where
 fs:p.fs.Perm q.fs
 rest:p.down=q.down∧p.armed=q.armed∧p.left=q.left∧p.plan=q.plan
theorem erase_filter {fs:List FileQ} {k:Nat} (hk:k<fs.length) (hn:(fs.map (·.nm)).Nodup):fs.eraseIdx k=fs.filter (fun f=>f.nm≠fs[k].nm):=by
 induction fs generalizing k with
 |nil=>simp at hk
 |cons x l ih=>
  simp only [List.map_cons,List.nodup_cons] at hn
  cases k with
  |zero=>
   rw [List.eraseIdx_cons_zero,List.getElem_cons_zero,List.filter_cons_of_neg (by simp)]
   symm
   rw [List.filter_eq_self]
   intro a ha
   simp only [ne_eq,decide_eq_true_eq]
   exact fun e=>hn.1 (e▸List.mem_map_of_mem (f:=fun x:FileQ=>x.nm) ha)
  |succ k=>
   have hk':k<l.length:=by simpa using hk
   rw [List.eraseIdx_cons_succ,List.getElem_cons_succ,List.filter_cons_of_pos,ih hk' hn.2]
   simp only [ne_eq,decide_eq_true_eq]
   exact fun e=>hn.1 (e▸List.mem_map_of_mem (f:=fun x:FileQ=>x.nm) (List.getElem_mem hk'))
theorem filter_perm:∀{ys:List FileR} {f:FileR},f∈ys→(ys.map (·.nm)).Nodup→(f::ys.filter fun g=>decide (g.nm≠f.nm)).Perm ys
 |x::l,f,hf,hn=>by
  simp only [List.map_cons,List.nodup_cons] at hn
  rcases List.mem_cons.1 hf with rfl|hf'
  ·rw [List.filter_cons_of_neg (by simp),List.filter_eq_self.2]
   intro g hg
   refine decide_eq_true fun e=>hn.1 ?_
   rw [←e]
   exact List.mem_map_of_mem (f:=fun x:FileR=>x.nm) hg
  ·have hx:¬x.nm=f.nm:=fun e=>hn.1 (by rw [e];exact List.mem_map_of_mem (f:=fun x:FileR=>x.nm) hf')
   rw [List.filter_cons_of_pos (by simpa using hx)]
   exact (List.Perm.swap _ _ _).trans ((filter_perm hf' hn.2).cons x)
end
section
open Go.RowKit Go.Maps Go.Shelf
theorem But.turned {w w':World} {b:Nat} (h:w.mapTurned w' b):But b w w':=⟨h.grown.size,fun x hx hne=>h.grown.block x hx (by simpa using hne)⟩
end
section
open Go.RowKit Go.Maps
theorem add_file {w1 w2:World} {B:Nat} {r:DiskR} {f:FileR} (h:DiskAt w1 B r) (hno:∀g∈r.fs,g.nm≠f.nm) (hnm:okName f.nm=true) (hct:r.fs.length<64) (hf:FileAt w1 B f) (hap:∀g∈r.fs,g.blk≠f.blk∧∀x,rowB g.a g.c=some x→rowB f.a f.c≠some x)
  (hs:f.sure≤f.b.length) (hb:f.b.length≤maxFileN) (hm:GMap w2 Tryz.prog 9 Rp r.m (r.fs.map entryR++ [entryR f])) (ht:w1.mapTurned w2 r.m):DiskAt w2 B {r with fs:=r.fs++ [f]}:=by
 have hg:=ht.grown
 have hk:∀x,x≠r.m→x<w1.heap.size→w2.heap[x]? =w1.heap[x]? :=fun x h1 h2=>hg.block x h2 (fun e=>h1 (by simpa using e))
 have hkeep:∀g,FileAt w1 B g→FileAt w2 B g:=fun g hg=>hg.keep (hk _ (h.ne_map hg.blk) hg.blk.lt) (fun x hx=>by
  obtain ⟨_,h2,cur,hcur⟩:=hg.row.lt hx
  exact hk x (h.ne_map hcur) h2)
 have hmem:∀g∈r.fs++ [f],g∈r.fs∨g=f:=fun g hg=>by simpa using hg
 refine ⟨h.ged,h.gem,(hk _ (h.ne_map h.blk) h.blk.lt).trans h.blk,by rw [List.map_append];exact hm,fun g hg=> ?_,?_,?_,?_⟩
 ·rcases hmem g hg with hg|rfl
  ·exact hkeep g (h.files g hg)
  ·exact hkeep _ hf
 ·rw [List.pairwise_append]
  refine ⟨h.apart,List.pairwise_singleton _ _,fun g hg q hq=> ?_⟩
  obtain rfl:=List.mem_singleton.1 hq
  exact hap g hg
 ·refine h.plan.keepAt fun x hx=> ?_
  obtain ⟨_,h2,cur,hcur⟩:=h.plan.block_lt hx
  exact hk _ (h.ne_map hcur) h2
 ·have hp:DiskR.p {r with fs:=r.fs++ [f]}={r.p with fs:=r.p.fs++ [f.p]}:=by simp [DiskR.p]
  rw [hp]
  have hm':∀g∈r.p.fs++ [f.p],g∈r.p.fs∨g=f.p:=fun g hg=>by simpa using hg
  refine ⟨?_,fun g hg=> ?_,fun g hg=> ?_,fun g hg=> ?_,?_,h.ok.left⟩
  ·show ((r.p.fs++ [f.p]).map (·.name)).Nodup
   rw [List.map_append,List.nodup_append]
   refine ⟨h.ok.names,by simp,?_⟩
   intro a ha b hb e
   obtain rfl:b=f.nm:=by simpa [FileR.p] using hb
   obtain ⟨g,hg,e2⟩:=List.mem_map.1 ha
   obtain ⟨g0,hg0,rfl⟩:=List.mem_map.1 hg
   exact hno g0 hg0 (e2.trans e)
  ·rcases hm' g hg with hg|rfl
   ·exact h.ok.named g hg
   ·exact hnm
  ·rcases hm' g hg with hg|rfl
   ·exact h.ok.sure g hg
   ·exact hs
  ·rcases hm' g hg with hg|rfl
   ·exact h.ok.size g hg
   ·exact hb
  ·show (r.p.fs++ [f.p]).length≤64
   have:r.p.fs.length=r.fs.length:=by simp [DiskR.p]
   simp;omega
structure DCopyR (w:World) (r:DiskR) (d0 it:Nat) (ys done:List FileR) (q:DiskR) (wr:World):Prop where
 sub:∀y∈ys,y∈r.fs
 nd:(ys.map (·.nm)).Nodup
 perm:(done++ys).Perm r.fs
 ran:GRan wr Tryz.prog 9 Rp r.m it (r.fs.map entryR) (ys.map entryR)
 disk:DiskAt wr w.heap.size q
 d:q.d=d0
 p:Hid (q.p={r.p with fs:=done.map FileR.p})
 off:∀x,foot q x→x≠it
 it:w.heap.size≤it
 below:Below w.heap.size w wr
set_option maxHeartbeats 4000000 in
set_option maxRecDepth 20000 in
theorem dcopy_any (w:World) (B:Nat) (r:DiskR) (h:DiskAt w B r) (hpl:r.plan.length*24≤140737488355328):
  Calls Tryz.prog 46 #[.pointer (some ⟨r.d,0,none⟩)] w fun e w'=>∃r',e= .returned (.pointer (some ⟨r'.d,0,none⟩))∧Like r'.p r.p∧DiskAt w' w.heap.size r'∧Below w.heap.size w w':=by
 have hb:=h.blk.rule
 unfold headV at hb
 have hz:r.d<w.heap.size:=h.blk.lt
 go_enter Tryz.func46,Tryz.ntmps46
 go_wp2_with fail
 refine (new_any' w).mono ?_
 rintro e w1 ⟨r0,rfl,hp0,h0,hb1⟩
 have HP0:=Lib.hid hp0.out
 clear hp0
 have h1:=h.old hb1
 have hb':=h1.blk
 unfold headV at hb'
 have hB0:=h0.blk
 unfold headV at hB0
 have hd0:w.heap.size≤r0.d:=h0.ged
 have hne:r.d≠r0.d:=by omega
 clear hb
 go_upto_region 4 with (fail)
 have lS:∀W,But r0.d w1.drew W→∀i,W.cell? ⟨r.d,i,none⟩=(headV r)[i]? :=fun W hW i=>(Blk.but (w:=w1.drew) h1.blk hW hne).rule i
 have l1:∀W,But r0.d w1.drew W→W.cell? ⟨r.d,1,none⟩=some (.bool r.down):=fun W hW=>lS W hW 1
 have l2:∀W,But r0.d w1.drew W→W.cell? ⟨r.d,2,none⟩=some (.bool r.armed):=fun W hW=>lS W hW 2
 have l3:∀W,But r0.d w1.drew W→W.cell? ⟨r.d,3,none⟩=some (.int .i64 r.left):=fun W hW=>lS W hW 3
 have l4:∀W,But r0.d w1.drew W→W.cell? ⟨r.d,4,none⟩=some (.slice r.pa r.plan.length r.pc):=fun W hW=>lS W hW 4
 clear lS
 refine wp_region_treeB (r0.d) (.step 0 (.step 1 (.step 2 (.step 3 (.step 4 (.step 5 (.step 6 (.step 7 (.step 8 (.step 9 (.step 10 (.step 11 (.step 12 (.step 13 (.step 14 (.step 15 (.step 16 (.step 17 (.step 18 (.step 19 (.step 20 (.step 21 (.step 22 (.step 23 (.step 24 (.step 25 (.step 26 (.step 27 (.step 28 (.step 29 (.step 30 (.step 31 (.step 32 .done))))))))))))))))))))))))))))))))) (by kernel_rfl) (by kernel_rfl) (fun c a d v w h=>by cases d<;>exact h) ?_
 repeat (first|(refine tree_skip rfl (by rfl) ?_;simp only [Act.put,List.setIfInBounds_toArray,List.set])|(refine tree_quiet (v:= ?_) rfl rfl (by rfl) ?_ ?_;rotate_left;(intro W hW;go_simp);(try with_reducible rfl);simp only [Act.put,List.setIfInBounds_toArray,List.set]))
 refine tree_loud rfl rfl (by rfl) (fun K hK=> ?_);go_wp2_with fail
 refine (clonep_any r.pa r.plan.length r.pc r.plan w1.drew (h1.plan.row.keepAt fun _ _=>rfl) rfl hpl).mono ?_
 rintro e w2 ⟨pa,pc,rfl,hown2,hb2⟩
 go_wp2_with fail
 refine hK _ _ (But.of hb2) ?_
 clear hK K l1 l2 l3 l4
 have hb12:Below w1.heap.size w1 w2:=below_step (Below.refl _ _).drew hb2
 have hB2:=h0.blk.old hb12
 have hf2:=hB2.free
 have hr2:=hB2.rule
 unfold headV at hr2
 repeat (first|(refine tree_skip rfl (by rfl) ?_;simp only [Act.put,List.setIfInBounds_toArray,List.set])|(refine tree_quiet (v:= ?_) rfl rfl (by rfl) ?_ ?_;rotate_left;(intro W hW;go_simp);(try with_reducible rfl);simp only [Act.put,List.setIfInBounds_toArray,List.set]))
 refine tree_loud rfl rfl (by rfl) (fun K hK=> ?_);go_wp2_with fail
 refine hK _ _ (But.setCell _ _ _) ?_
 clear hK K
 repeat (first|(refine tree_skip rfl (by rfl) ?_;simp only [Act.put,List.setIfInBounds_toArray,List.set])|(refine tree_quiet (v:= ?_) rfl rfl (by rfl) ?_ ?_;rotate_left;(intro W hW;go_simp);(try with_reducible rfl);simp only [Act.put,List.setIfInBounds_toArray,List.set]))
 refine tree_loud rfl rfl (by rfl) (fun K hK=> ?_);go_wp2_with fail
 refine hK _ _ (But.setCell _ _ _) ?_
 clear hK K
 repeat (first|(refine tree_skip rfl (by rfl) ?_;simp only [Act.put,List.setIfInBounds_toArray,List.set])|(refine tree_quiet (v:= ?_) rfl rfl (by rfl) ?_ ?_;rotate_left;(intro W hW;go_simp);(try with_reducible rfl);simp only [Act.put,List.setIfInBounds_toArray,List.set]))
 refine tree_loud rfl rfl (by rfl) (fun K hK=> ?_);go_wp2_with fail
 refine hK _ _ (But.setCell _ _ _) ?_
 clear hK K
 repeat (first|(refine tree_skip rfl (by rfl) ?_;simp only [Act.put,List.setIfInBounds_toArray,List.set])|(refine tree_quiet (v:= ?_) rfl rfl (by rfl) ?_ ?_;rotate_left;(intro W hW;go_simp);(try with_reducible rfl);simp only [Act.put,List.setIfInBounds_toArray,List.set]))
 refine tree_loud rfl rfl (by rfl) (fun K hK=> ?_);go_wp2_with fail
 refine hK _ _ (But.setCell _ _ _) ?_
 clear hK K
 refine tree_done ?_
 have h02:=h0.old hb12
 have hfs0:r0.fs=[]:=by
  have:=congrArg DiskP.fs HP0.out
  exact List.map_eq_nil_iff.1 this
 go_upto_region 5 with (fail)
 refine wp_forget (fun W=>Blk W r0.d (headV {r0 with down:=r.down,armed:=r.armed,left:=r.left,pa:=pa,pc:=pc,plan:=r.plan}) 85∧But r0.d w2 W∧Turn (fun x=>x=r0.d) w2 W) ⟨?_,?_,?_⟩ ?_
 ·have:=(((hB2.set 1 (.bool r.down)).set 2 (.bool r.armed)).set 3 (.int .i64 r.left)).set 4 (.slice pa r.plan.length pc)
  unfold headV at this⊢
  simpa using this
 ·exact ((((But.setCell _ _ _).trans (But.setCell _ _ _)).trans (But.setCell _ _ _)).trans (But.setCell _ _ _))
 ·exact ((((Turn.refl (fun x=>x=r0.d) w2).setCell (x:=⟨r0.d,1,none⟩) (.inl rfl) _).setCell (x:=⟨r0.d,2,none⟩) (.inl rfl) _).setCell (x:=⟨r0.d,3,none⟩) (.inl rfl) _).setCell (x:=⟨r0.d,4,none⟩) (.inl rfl) _
 rintro w3 ⟨hd3,hbut3,ht3⟩
 have h3:DiskAt w3 w.heap.size {r0 with down:=r.down,armed:=r.armed,left:=r.left,pa:=pa,pc:=pc,plan:=r.plan}:=by
  have hk:∀x,x≠r0.d→x<w2.heap.size→w3.heap[x]? =w2.heap[x]? :=fun x hx hl=>ht3.block x hl hx
  refine ⟨h0.ged,h0.gem,hd3,h02.map.keep (hk _ (Ne.symm (h02.ne_map h02.blk)) h02.map.lt),fun f hf=> ?_,?_,?_,?_⟩
  ·rw [show DiskR.fs {r0 with down:=r.down,armed:=r.armed,left:=r.left,pa:=pa,pc:=pc,plan:=r.plan}=[] from hfs0] at hf
   cases hf
  ·show r0.fs.Pairwise _
   rw [hfs0]
   exact List.Pairwise.nil
  ·show Own w3 w.heap.size 130 2 pa r.plan.length pc (r.plan.flatMap pieceV)
   refine (hown2.lower hb1.size).keepAt fun x hx=> ?_
   obtain ⟨_,_,_,hc⟩:=hown2.block_lt hx
   exact hk _ (Blk.ne hc hB2 (by decide)) hc.lt
  ·have e:DiskR.p {r0 with down:=r.down,armed:=r.armed,left:=r.left,pa:=pa,pc:=pc,plan:=r.plan}={r.p with fs:=[]}:=by simp [DiskR.p,hfs0]
   rw [e]
   exact h.ok.sub (List.nil_sublist _)
 have hb03:Below w.heap.size w w3:=(hb1.trans (hb12.mono hb1.size)).trans (ht3.below (fun k hk=>by subst hk;exact h0.ged) (Nat.le_trans hb1.size hb12.size))
 clear hd3 hbut3 ht3 hB2 hf2 hr2 hown2 hb2 hb12 h02 hB0 hb' h1 h0 hb1
 have h3w:=h.old hb03
 have hb3:=h3w.blk.rule
 unfold headV at hb3
 go_wp2_with (at_range;refine wpList_range_map rfl _ _ rfl keyS Tryz.underlying83 rfl h3w.map ?_;intro w4 hg4 hgr4 hsz4)
 go_frame
 have hnd:=h.names
 have hb04:Below w3.heap.size w3 w4:=⟨hgr4.os,hgr4.tape,hgr4.output,by omega,fun k hk=>hgr4.block k hk (by simp)⟩
 have hst:DCopyR w r r0.d w3.heap.size r.fs [] {r0 with down:=r.down,armed:=r.armed,left:=r.left,pa:=pa,pc:=pc,plan:=r.plan} w4:=⟨fun _ hy=>hy,hnd,by simp,hg4,h3.old hb04,rfl,Lib.hid (by simp [DiskR.p,hfs0]),fun x hx=>Nat.ne_of_lt (h3.lt hx).2,hb03.size,hb03.trans (hb04.mono hb03.size)⟩
 obtain ⟨it,hit⟩:∃it,it=w3.heap.size:=⟨_,rfl⟩
 have HIT:=Lib.hid hit
 clear h3 h3w hb3 hb03 hg4 hgr4 hsz4 hb04
 go_loopw [4,5] (fun _ _ wr=>∃ys done q,DCopyR w r r0.d w3.heap.size ys done q wr) (fun _ _ wr=>wr.rangeLeft r.m w3.heap.size)
 case atStart=>exact ⟨r.fs,[],_,hst⟩
 case round=>
  clear hst
  obtain ⟨ys,done,q,H⟩:=hrel
  go_wp2_with (at_next;refine wpList_next_file rfl _ rfl rfl H.ran ?_ ?_)
  ·intro h0
   subst h0
   have hp:done.Perm r.fs:=by have:=H.perm;rwa [List.append_nil] at this
   go_wp2_with fail
   go_ret
   refine ⟨q,by rw [H.d];rfl,?_,H.disk,H.below⟩
   rw [H.p.out]
   exact ⟨hp.map FileR.p,rfl,rfl,rfl,rfl⟩
  ·intro f hf w5 hgr5 hlt5 hgb5 hsz5 hen
   have HG:=Lib.hid hgr5
   have HL:=Lib.hid hlt5
   have hitl:w3.heap.size<wr.heap.size:=H.ran.lt
   have hitw:=H.it
   have hk5:∀x,x≠w3.heap.size→x<wr.heap.size→w5.heap[x]? =wr.heap[x]? :=fun x h1 h2=>hgb5.block x h2 (by simpa using h1)
   have hd5:DiskAt w5 w.heap.size q:=H.disk.keep fun x hx=>hk5 x (H.off x hx) (H.disk.lt hx).2
   have hb05:Below w.heap.size w w5:=H.below.trans ⟨hgb5.os,hgb5.tape,hgb5.output,by omega,fun k hk=>hk5 k (by omega) (by omega)⟩
   have hfr:=H.sub f hf
   have hfw:=h.files f hfr
   have hf5:FileAt w5 B f:=hfw.keep (hb05.block _ hfw.blk.lt) (fun x hx=>hb05.block _ (hfw.row.lt hx).2.1)
   have hfB:=hf5.blk
   have hsz:f.b.length≤1048576:=h.ok.size f.p (List.mem_map.2 ⟨_,hfr,rfl⟩)
   have hsu:f.sure≤f.b.length:=h.ok.sure f.p (List.mem_map.2 ⟨_,hfr,rfl⟩)
   have hok:okName f.nm=true:=h.ok.named f.p (List.mem_map.2 ⟨_,hfr,rfl⟩)
   have hnz:f.nm.size≤40:=by have:=hok;unfold okName at this;simp at this;exact this.2
   have hqB:=hd5.blk
   unfold headV at hqB
   rw [H.d] at hqB
   have hne1:f.blk≠q.m:=hd5.ne_map hfB
   have hne2:r0.d≠q.m:=by have:=hd5.ne_map hd5.blk;rw [H.d] at this;exact this
   clear hgr5 hlt5
   go_wp2_with fail
   have m0:∀W,But q.m w5.drew W→W.cell? ⟨r0.d,0,none⟩=some (.map (some q.m)):=fun W hW=>(Blk.but (w:=w5.drew) hqB hW hne2).rule 0
   have m1:∀W,But q.m w5.drew W→W.cell? ⟨f.blk,0,none⟩=some (.slice f.a f.b.length f.c):=fun W hW=>(Blk.but (w:=w5.drew) hfB hW hne1).rule 0
   have m2:∀W,But q.m w5.drew W→W.cell? ⟨f.blk,1,none⟩=some (.int .i64 (f.sure:Int)):=fun W hW=>(Blk.but (w:=w5.drew) hfB hW hne1).rule 1
   refine wp_region_treeB (q.m) (.step 0 (.step 1 (.step 2 (.step 3 (.step 4 (.step 5 (.step 6 (.step 7 (.step 8 (.step 10 (.step 11 (.step 12 (.step 13 (.step 9 (.step 14 (.step 15 (.step 16 .done))))))))))))))))) (by kernel_rfl) (by kernel_rfl) (fun c a d v w h=>by cases d<;>exact h) ?_
   repeat (first|(refine tree_skip rfl (by rfl) ?_;simp only [Act.put,List.setIfInBounds_toArray,List.set])|(refine tree_quiet (v:= ?_) rfl rfl (by rfl) ?_ ?_;rotate_left;(intro W hW;go_simp);(try with_reducible rfl);simp only [Act.put,List.setIfInBounds_toArray,List.set]))
   refine tree_loud rfl rfl (by rfl) (fun K hK=> ?_);go_wp2_with fail
   refine (clone_any f.a f.b.length f.c f.b w5.drew (hf5.row.read.keepAt fun _ _=>rfl) rfl (by omega)).mono ?_
   rintro e w6 ⟨a6,c6,rfl,hown6,hb6⟩
   go_wp2_with fail
   refine hK _ _ (But.of hb6) ?_
   clear hK K m0 m1 m2
   have hb56:Below w5.heap.size w5 w6:=below_step (Below.refl _ _).drew hb6
   have hd6:=hd5.old hb56
   have hq0:q.p.fs=done.map FileR.p:=by rw [H.p.out]
   have hnoq:∀g∈q.fs,g.nm≠f.nm:=by
    intro g hg e
    have h1:g.p∈done.map FileR.p:=by rw [←hq0];exact List.mem_map.2 ⟨g,hg,rfl⟩
    obtain ⟨g2,hg2,e2⟩:=List.mem_map.1 h1
    have e3:g2.nm=f.nm:=by
     have:g2.p.name=g.p.name:=by rw [e2]
     exact this.trans e
    have hn2:((done++ys).map (·.nm)).Nodup:=(H.perm.map _).nodup_iff.2 hnd
    rw [List.map_append,List.nodup_append] at hn2
    exact hn2.2.2 g2.nm (List.mem_map.2 ⟨g2,hg2,rfl⟩) f.nm (List.mem_map.2 ⟨f,hf,rfl⟩) e3
   have hql:q.fs.length=done.length:=by have:=congrArg List.length hq0;simpa [DiskR.p] using this
   have hdl:done.length<64:=by
    have h1:=H.perm.length_eq
    have h2:r.fs.length≤64:=by have:=h.ok.count;simpa [DiskR.p] using this
    have h3:0<ys.length:=List.length_pos_of_mem hf
    rw [List.length_append] at h1
    omega
   obtain ⟨w7,hw7⟩:∃W,W=w6.alloc (.cells #[.slice a6 f.b.length c6,.int .i64 (f.sure:Int)] 112):=⟨_,rfl⟩
   have hb67:Below w6.heap.size w6 w7:=by rw [hw7];exact (Below.refl _ _).alloc (Nat.le_refl _) _
   have hd7:=hd6.old hb67
   obtain ⟨w8,hrun,hm8,ht8⟩:=hd7.map.add keyS Tryz.underlying83 (by unfold maxLen;rw [List.length_map];omega) (Go.WideMaps.keyOf_string_mk Tryz.underlying9 (s:=f.nm) (by unfold maxLen;omega)) (Rp_mk w6.heap.size) (by
    rw [entry_keys]
    intro hm
    obtain ⟨g,hg,e⟩:=List.mem_map.1 hm
    exact hnoq g hg (nameL_inj e))
   have hrun2:=hrun
   rw [hw7] at hrun2
   repeat (first|(refine tree_skip rfl (by rfl) ?_;simp only [Act.put,List.setIfInBounds_toArray,List.set])|(refine tree_quiet (v:= ?_) rfl rfl (by rfl) ?_ ?_;rotate_left;(intro W hW;go_simp);(try with_reducible rfl);simp only [Act.put,List.setIfInBounds_toArray,List.set]))
   refine tree_loud rfl rfl (by rfl) (fun K hK=> ?_);go_wp2_with fail
   refine hK _ _ (But.of ((Below.refl _ _).alloc (Nat.le_refl _) _)) ?_
   clear hK K
   repeat (first|(refine tree_skip rfl (by rfl) ?_;simp only [Act.put,List.setIfInBounds_toArray,List.set])|(refine tree_quiet (v:= ?_) rfl rfl (by rfl) ?_ ?_;rotate_left;(intro W hW;go_simp);(try with_reducible rfl);simp only [Act.put,List.setIfInBounds_toArray,List.set]))
   refine tree_loud rfl rfl (by rfl) (fun K hK=> ?_);go_wp2_with fail
   have hturn:But q.m w6 w8:=(But.of hb67).trans (But.turned ht8)
   refine hK _ _ (by rw [←hw7];exact But.turned ht8) ?_
   clear hK K
   refine tree_done ?_
   go_wp2_with fail
   have hfile:FileAt w7 w.heap.size ⟨f.nm,w6.heap.size,a6,c6,f.b,f.sure⟩:=by
    refine ⟨by rw [hw7];exact Blk.new _ _ _,by have h1:=hb05.size;have h2:=hb56.size;show _≤w6.heap.size;omega,?_⟩
    rw [hw7]
    refine ((Mid.of hown6).alloc _).lower ?_
    have h1:=hb05.size
    show w.heap.size≤w5.heap.size
    exact h1
   have hlen6:∀x,foot q x→x<w5.heap.size:=fun x hx=>(hd5.lt hx).2
   have hap:∀g∈q.fs,g.blk≠w6.heap.size∧∀x,rowB g.a g.c=some x→rowB a6 c6≠some x:=by
    intro g hg
    have h1:=hlen6 _ (.inr (.inr (.inl ⟨g,hg,.inl rfl⟩)))
    have h2:=hb56.size
    refine ⟨by omega,fun x hx e=> ?_⟩
    have h3:=hlen6 _ (.inr (.inr (.inl ⟨g,hg,.inr hx⟩)))
    have h4:=((Mid.of hown6).lt e).1
    have h5:w5.drew.heap.size=w5.heap.size:=rfl
    omega
   have hd8:=add_file (f:=⟨f.nm,w6.heap.size,a6,c6,f.b,f.sure⟩) hd7 hnoq hok (by rw [hql];exact hdl) hfile hap hsu hsz hm8 ht8
   have hb8:Below w.heap.size w w8:=by
    have h1:=hb05.trans (hb56.mono hb05.size)
    have h2:=h1.trans (hb67.mono h1.size)
    have hg:=ht8.grown
    exact h2.trans ⟨hg.os,hg.tape,hg.output,hg.size,fun k hk=>hg.block k (by have:=h2.size;omega) (by
     have:=hd5.gem
     simp only [Option.some.injEq,ne_eq] at*
     omega)⟩
   have e1:w8.heap[r.m]? =w5.heap[r.m]? :=by
    have h0:=h.map.lt
    have:=hd5.gem
    have h1:=hb05.size
    rw [(hturn.block r.m (by have:=hb56.size;omega) (by omega)),hb56.block _ (by omega)]
   have e2:w8.heap[w3.heap.size]? =w5.heap[w3.heap.size]? :=by
    have h1:=H.off q.m (.inr (.inl rfl))
    rw [(hturn.block w3.heap.size (by have:=hb56.size;omega) (Ne.symm h1)),hb56.block _ (by omega)]
   have e3:w8.rangeLeft r.m w3.heap.size=w5.rangeLeft r.m w3.heap.size:=by simp only [World.rangeLeft,e1,e2]
   have HP:=H.p
   refine ⟨⟨ys.filter fun g=>decide (g.nm≠f.nm),done++ [f],{q with fs:=q.fs++ [⟨f.nm,w6.heap.size,a6,c6,f.b,f.sure⟩]},fun y hy=>H.sub y (List.mem_filter.1 hy).1,(List.Sublist.map _ List.filter_sublist).nodup H.nd,?_,?_,hd8,H.d,Lib.hid ?_,?_,H.it,hb8⟩,by rw [e3];exact HL.out⟩
   ·rw [List.append_assoc]
    exact ((filter_perm hf H.nd).append_left done).trans H.perm
   ·have:=HG.out.keep e1 e2
    simpa only [ne_eq,decide_not] using this
   ·have e:DiskR.p {q with fs:=q.fs++ [⟨f.nm,w6.heap.size,a6,c6,f.b,f.sure⟩]}={q.p with fs:=q.p.fs++ [f.p]}:=by simp [DiskR.p,FileR.p]
    rw [e,HP.out]
    simp
   ·rintro x (hx|hx|⟨g,hg,hx⟩|hx)
    ·exact H.off x (.inl hx)
    ·exact H.off x (.inr (.inl hx))
    ·rcases List.mem_append.1 hg with hg|hg
     ·exact H.off x (.inr (.inr (.inl ⟨g,hg,hx⟩)))
     ·obtain rfl:=List.mem_singleton.1 hg
      rcases hx with hx|hx
      ·have:=hb56.size
       show x≠w3.heap.size
       have hx':x=w6.heap.size:=hx
       omega
      ·have h4:=((Mid.of hown6).lt hx).1
       have h5:w5.drew.heap.size=w5.heap.size:=rfl
       show x≠w3.heap.size
       omega
    ·exact H.off x (.inr (.inr (.inr hx)))
end
section
open Go.RowKit Go.Maps
set_option maxRecDepth 20000
theorem Own.ofBlk {w:World} {B g:Nat} {e:TypeId} {vs:List Value} (h:Blk w g vs.toArray e) (hB:B≤g) (hl:vs.length≤maxLen):Own w B e 1 (some ⟨g,0,none⟩) vs.length vs.length vs:=
 ⟨by rw [Nat.mul_one],.inr ⟨g,vs.length,_,rfl,hB,h,Nat.le_refl _,hl,by simp,by simp⟩⟩
theorem OwnInts.ofBlk {w:World} {B g n:Nat} {l:List Int} (h:Blk w g (l.map (Value.int .i64)).toArray 3) (hB:B≤g) (hn:n=l.length) (hl:l.length≤1000000) (hw:∀x∈l,wf64 x):OwnInts w B ⟨some ⟨g,0,none⟩,n,n⟩ l:=by
 have ho:=Own.ofBlk h hB (by rw [List.length_map];unfold maxLen;omega)
 rw [List.length_map] at ho
 subst hn
 exact ⟨ho,ho.row,rfl,Nat.le_refl _,by show l.length≤maxLen;unfold maxLen;omega,by show l.length≤_;omega,hw⟩
set_option maxHeartbeats 1000000 in
theorem vbegun_any (w:World):Calls Tryz.prog 45 #[.int .i64 0] w fun e w'=>∃hx,e= .returned (deedVal begD hx)∧DeedOwn w' w.heap.size begD hx∧Below w.heap.size w w':=by
 go_enter Tryz.func45,Tryz.ntmps45
 go_upto_region 1 with (fail)
 obtain ⟨X,hX⟩:∃X,X=w.heap.size:=⟨_,rfl⟩
 rw [←hX]
 refine wp_forget (fun W=>Blk W X zeroDC 40∧Below X w W∧W.heap.size=X+1) ⟨by rw [hX];exact Blk.new _ _ _,by rw [hX];(try unfold Kept);repeat (first|assumption|exact Below.refl _ _|exact below_undrew (Below.refl _ _)|exact Below.mono (by assumption) (by first|(simp;done)|(simp;omega)|omega)|refine below_setRow ?_ (by first|(simp;done)|(simp;omega)|omega) _|refine Below.setCell ?_ (by first|(simp;done)|(simp;omega)|omega) _|refine Below.alloc ?_ (by first|(simp;done)|(simp;omega)|omega) _|refine below_drewN ?_ _|refine Below.drew ?_|refine below_undrew ?_|refine below_step ?_ (by assumption)),by rw [hX];simp⟩ ?_
 rintro W1 ⟨bX,hb1,hz1⟩
 have HX:=Lib.hid hX
 have HZ:=Lib.hid hz1
 clear hX hz1
 go_wp2_with (refine wpList_store_at rfl 40 deedT (.tmp 2) (.tmp 9) rfl rfl rfl (((bX.alloc _).alloc _).alloc _) rfl (by decide) rfl ?_)
 obtain ⟨N,hN⟩:∃N,N=W1.heap.size:=⟨_,rfl⟩
 have b0:=Blk.new3 W1 #[.int .i64 1,.int .i64 2] 3 (.cells #[.int .i64 3] 3) (.cells #[.int .i64 5] 3)
 have b1:=Blk.new3' W1 #[.int .i64 3] 3 (.cells #[.int .i64 1,.int .i64 2] 3) (.cells #[.int .i64 5] 3)
 have b2:=Blk.new3'' W1 #[.int .i64 5] 3 (.cells #[.int .i64 1,.int .i64 2] 3) (.cells #[.int .i64 3] 3)
 have hz:=HZ.out
 rw [←hN] at b0 b1 b2 hz⊢
 have hXw:w.heap.size≤X:=Nat.le_of_eq HX.out.symm
 have hb3:Below X w (((W1.alloc (.cells #[.int .i64 1,.int .i64 2] 3)).alloc (.cells #[.int .i64 3] 3)).alloc (.cells #[.int .i64 5] 3)):=by have:=HX.out;(try unfold Kept);repeat (first|assumption|exact Below.refl _ _|exact below_undrew (Below.refl _ _)|exact Below.mono (by assumption) (by first|(simp;done)|(simp;omega)|omega)|refine below_setRow ?_ (by first|(simp;done)|(simp;omega)|omega) _|refine Below.setCell ?_ (by first|(simp;done)|(simp;omega)|omega) _|refine Below.alloc ?_ (by first|(simp;done)|(simp;omega)|omega) _|refine below_drewN ?_ _|refine Below.drew ?_|refine below_undrew ?_|refine below_step ?_ (by assumption))
 have bX3:Blk (((W1.alloc (.cells #[.int .i64 1,.int .i64 2] 3)).alloc (.cells #[.int .i64 3] 3)).alloc (.cells #[.int .i64 5] 3)) X zeroDC 40:=((bX.alloc _).alloc _).alloc _
 generalize (((W1.alloc (.cells #[.int .i64 1,.int .i64 2] 3)).alloc (.cells #[.int .i64 3] 3)).alloc (.cells #[.int .i64 5] 3))=W3 at*
 have wi:∀l:List Int,(∀x∈l,0≤x∧x≤1000)→∀x∈l,wf64 x:=fun l h x hx=>by
  have:=h x hx
  obtain ⟨n,rfl⟩:∃n:Nat,x=(n:Int):=⟨x.toNat,by omega⟩
  exact wf64_small (by omega)
 refine post_blk (g:=X) rfl deedT rfl (bX3.setRow _) rfl rfl ⟨⟨⟨some ⟨N,0,none⟩,2,2⟩,⟨some ⟨N+1,0,none⟩,1,1⟩,⟨some ⟨N+2,0,none⟩,1,1⟩,nilA⟩,rfl,?_,?_⟩
 ·exact ⟨ok_beg.kind,ok_beg.game,ok_beg.table,ok_beg.fmt,ok_beg.n0,ok_beg.n1,OwnInts.ofBlk (l:=[1,2]) (b0.setRow_other _ _ (by omega)) (by omega) rfl (by decide) (wi _ (by decide)),OwnInts.ofBlk (l:=[3]) (b1.setRow_other _ _ (by omega)) (by omega) rfl (by decide) (wi _ (by decide)),OwnInts.ofBlk (l:=[5]) (b2.setRow_other _ _ (by omega)) (by omega) rfl (by decide) (wi _ (by decide)),rfl,rfl,rfl,rfl,OwnInts.nil _ _,OwnPairs.nil _ _⟩
 ·rw [←HX.out]
  exact below_setRow hb3 (Nat.le_refl _) _
end
end Go.Proofs.YtioigihakjlopaaGreat
