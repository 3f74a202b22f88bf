import Derived.Test.YtioigihakjlopaaGreatVF34
import Derived.Test.YtioigihakjlopaaGreatVF35
import Derived.Test.YtioigihakjlopaaGreatVF36
namespace Go.Proofs.YtioigihakjlopaaGreat
open Go.Proofs.Tryz
set_option linter.unusedVariables false
set_option linter.unusedSimpArgs false
set_option maxHeartbeats 16000000
set_option maxRecDepth 100000
section
open Go.RowKit Go.Maps
theorem FE {w1 w2:World} {B:Nat} {r:aF} {f:bJ} (h:aG w1 B r) (hno:∀g∈r.fs,g.nm≠f.nm) (hnm:cZ f.nm=true) (hct:r.fs.length<64) (hf:jv w1 B f) (hap:∀g∈r.fs,g.blk≠f.blk/\∀x,bE g.a g.c=some x->bE f.a f.c≠some x)
  (hs:f.sure<=f.b.length) (hb:f.b.length<=fh) (hm:iP w2 prog 9 Rp r.m (r.fs.map fT++ [fT f])) (ht:w1.mapTurned w2 r.m):aG w2 B {r with fs:=r.fs++ [f]}:=by
 have hg:=ht.grown;have hk:∀x,x≠r.m->x<w1.heap.size->w2.heap[x]? =w1.heap[x]? :=fun x h1 h2=>hg.block x h2 (fun e=>h1 (by simpa using e));have hkeep:∀g,jv w1 B g->jv w2 B g:=fun g hg=>hg.keep (hk _ (h.ne_map hg.blk) hg.blk.lt) (fun x hx=>by
  obtain ⟨_,h2,cur,hcur⟩:=hg.row.lt hx;exact hk x (h.ne_map hcur) h2)
 have hmem:∀g∈r.fs++ [f],g∈r.fs\/g=f:=fun g hg=>(by simpa using hg);refine ⟨h.ged,h.gem,(hk _ (h.ne_map h.blk) h.blk.lt).trans h.blk,by rw [VG];exact hm,fun g hg=> ?_,?_,?_,?_⟩
 .rcases hmem g hg with hg|rfl
  .exact hkeep g (h.files g hg)
  .exact hkeep _ hf
 .rw [List.pairwise_append];refine ⟨h.apart,List.pairwise_singleton _ _,fun g hg q hq=> ?_⟩;obtain rfl:=VH.1 hq;exact hap g hg
 .refine h.plan.keepAt fun x hx=> ?_;obtain ⟨_,h2,cur,hcur⟩:=h.plan.block_lt hx;exact hk _ (h.ne_map hcur) h2
 .have hp:aF.p {r with fs:=r.fs++ [f]}={r.p with fs:=r.p.fs++ [f.p]}:=(by simp [aF.p]);rw [hp];have hm':∀g∈r.p.fs++ [f.p],g∈r.p.fs\/g=f.p:=fun g hg=>(by simpa using hg);refine ⟨?_,fun g hg=> ?_,fun g hg=> ?_,fun g hg=> ?_,?_,h.ok.left⟩
  .show ((r.p.fs++ [f.p]).map (·.name)).Nodup;rw [VG,XE];refine ⟨h.ok.names,skA,?_⟩;intro a ha b hb e;obtain rfl:b=f.nm:=(by simpa [bJ.p] using hb);obtain ⟨g,hg,e2⟩:=VY.1 ha;obtain ⟨g0,hg0,rfl⟩:=VY.1 hg;exact hno g0 hg0 (e2.trans e)
  .rcases hm' g hg with hg|rfl
   .exact h.ok.named g hg
   .exact hnm
  .rcases hm' g hg with hg|rfl
   .exact h.ok.sure g hg
   .exact hs
  .rcases hm' g hg with hg|rfl
   .exact h.ok.size g hg
   .exact hb
  .show (r.p.fs++ [f.p]).length<=64;have:r.p.fs.length=r.fs.length:=(by simp [aF.p]);simp;omega
structure GU (w:World) (r:aF) (d0 it:Nat) (ys done:List bJ) (q:aF) (wr:World):Prop where
 sub:∀y∈ys,y∈r.fs
 nd:(ys.map (·.nm)).Nodup
 perm:(done++ys).Perm r.fs
 ran:vw wr prog 9 Rp r.m it (r.fs.map fT) (ys.map fT)
 disk:aG wr w.heap.size q
 d:q.d=d0
 p:Hid (q.p={r.p with fs:=done.map bJ.p})
 off:∀x,eM q x->x≠it
 it:w.heap.size<=it
 below:Below w.heap.size w wr
theorem CN (w:World) (B:Nat) (r:aF) (h:aG w B r) (hpl:r.plan.length*24<=140737488355328):
  Calls prog 46 #[.pointer (some ⟨r.d,0,none⟩)] w fun e w'=>∃r',e= .returned (.pointer (some ⟨r'.d,0,none⟩))/\FL r'.p r.p/\aG w' w.heap.size r'/\Below w.heap.size w w':=by
 have hb:=h.blk.rule;unfold jf at hb;have hz:r.d<w.heap.size:=h.blk.lt;go_enter func46,ntmps46;go_wp2_with fail;refine (oz w).mono ?_;rintro e w1 ⟨r0,rfl,hp0,h0,hb1⟩;have HP0:=Hd hp0.out;clear hp0;have h1:=h.old hb1;have hb':=h1.blk;unfold jf at hb';have hB0:=h0.blk;unfold jf at hB0;have hd0:w.heap.size<=r0.d:=h0.ged;have hne:r.d≠r0.d:=oA;clear hb;go_upto_region 4 with (fail);have lS:∀W,But r0.d w1.drew W->∀i,W.cell? ⟨r.d,i,none⟩=(jf r)[i]? :=fun W hW i=>(Blk.but (w:=w1.drew) h1.blk hW hne).rule i;have l1:∀W,But r0.d w1.drew W->W.cell? ⟨r.d,1,none⟩=some (.bool r.down):=fun W hW=>lS W hW 1;have l2:∀W,But r0.d w1.drew W->W.cell? ⟨r.d,2,none⟩=some (.bool r.armed):=fun W hW=>lS W hW 2;have l3:∀W,But r0.d w1.drew W->W.cell? ⟨r.d,3,none⟩=some (.int .i64 r.left):=fun W hW=>lS W hW 3;have l4:∀W,But r0.d w1.drew W->W.cell? ⟨r.d,4,none⟩=some (.slice r.pa r.plan.length r.pc):=fun W hW=>lS W hW 4;clear lS;refine cj (r0.d) (.step 0 (.step 1 (.step 2 (.step 3 (.step 4 (.step 5 (.step 6 (.step 7 (.step 8 (.step 9 (.step 10 (.step 11 (.step 12 (.step 13 (.step 14 (.step 15 (.step 16 (.step 17 (.step 18 (.step 19 (.step 20 (.step 21 (.step 22 (.step 23 (.step 24 (.step 25 (.step 26 (.step 27 (.step 28 (.step 29 (.step 30 (.step 31 (.step 32 .done))))))))))))))))))))))))))))))))) krA krA cdA ?_
 repeat (first|refine tsA ?_|refine tqA ?_)
 refine an rfl rfl rfA (fun K hK=> ?_);go_wp2_with fail;refine (Ac r.pa r.plan.length r.pc r.plan w1.drew (h1.plan.row.keepAt fun _ _=>rfl) rfl hpl).mono ?_;rintro e w2 ⟨pa,pc,rfl,hown2,hb2⟩;go_wp2_with fail;refine hK _ _ (But.of hb2) ?_;clear hK K l1 l2 l3 l4;have hb12:Below w1.heap.size w1 w2:=ae (AT _ _).drew hb2;have hB2:=h0.blk.old hb12;have hf2:=hB2.free;have hr2:=hB2.rule;unfold jf at hr2
 repeat (first|refine tsA ?_|refine tqA ?_)
 refine an rfl rfl rfA (fun K hK=> ?_);go_wp2_with fail;refine hK _ _ (But.setCell _ _ _) ?_;clear hK K
 repeat (first|refine tsA ?_|refine tqA ?_)
 refine an rfl rfl rfA (fun K hK=> ?_);go_wp2_with fail;refine hK _ _ (But.setCell _ _ _) ?_;clear hK K
 repeat (first|refine tsA ?_|refine tqA ?_)
 refine an rfl rfl rfA (fun K hK=> ?_);go_wp2_with fail;refine hK _ _ (But.setCell _ _ _) ?_;clear hK K
 repeat (first|refine tsA ?_|refine tqA ?_)
 refine an rfl rfl rfA (fun K hK=> ?_);go_wp2_with fail;refine hK _ _ (But.setCell _ _ _) ?_;clear hK K;refine ap ?_;have h02:=h0.old hb12;have hfs0:r0.fs=[]:=by
  have:=WG aM.fs HP0.out;exact List.map_eq_nil_iff.1 this
 go_upto_region 5 with (fail);refine af (fun W=>Blk W r0.d (jf {r0 with down:=r.down,armed:=r.armed,left:=r.left,pa:=pa,pc:=pc,plan:=r.plan}) 85/\But r0.d w2 W/\aJ (fun x=>x=r0.d) w2 W) ⟨?_,?_,?_⟩ ?_
 .have:=(((hB2.set 1 (.bool r.down)).set 2 (.bool r.armed)).set 3 (.int .i64 r.left)).set 4 (.slice pa r.plan.length pc);unfold jf at this⊢;simpa using this
 .exact ((((But.setCell _ _ _).trans (But.setCell _ _ _)).trans (But.setCell _ _ _)).trans (But.setCell _ _ _))
 .exact ((((aJ.refl (fun x=>x=r0.d) w2).setCell (x:=⟨r0.d,1,none⟩) (.inl rfl) _).setCell (x:=⟨r0.d,2,none⟩) (.inl rfl) _).setCell (x:=⟨r0.d,3,none⟩) (.inl rfl) _).setCell (x:=⟨r0.d,4,none⟩) (.inl rfl) _
 rintro w3 ⟨hd3,hbut3,ht3⟩;have h3:aG w3 w.heap.size {r0 with down:=r.down,armed:=r.armed,left:=r.left,pa:=pa,pc:=pc,plan:=r.plan}:=by
  have hk:∀x,x≠r0.d->x<w2.heap.size->w3.heap[x]? =w2.heap[x]? :=fun x hx hl=>ht3.block x hl hx;refine ⟨h0.ged,h0.gem,hd3,h02.map.keep (hk _ (Vf (h02.ne_map h02.blk)) h02.map.lt),fun f hf=> ?_,?_,?_,?_⟩
  .rw [show aF.fs {r0 with down:=r.down,armed:=r.armed,left:=r.left,pa:=pa,pc:=pc,plan:=r.plan}=[] from hfs0] at hf;cases hf
  .show r0.fs.Pairwise _;rw [hfs0];exact List.Pairwise.nil
  .show Own w3 w.heap.size 130 2 pa r.plan.length pc (r.plan.flatMap eu);refine (hown2.lower hb1.size).keepAt fun x hx=> ?_;obtain ⟨_,_,_,hc⟩:=hown2.block_lt hx;exact hk _ (Blk.ne hc hB2 dcA) hc.lt
  .have e:aF.p {r0 with down:=r.down,armed:=r.armed,left:=r.left,pa:=pa,pc:=pc,plan:=r.plan}={r.p with fs:=[]}:=(by simp [aF.p,hfs0]);rw [e];exact h.ok.sub (List.nil_sublist _)
 have hb03:Below w.heap.size w w3:=(hb1.trans (hb12.mono hb1.size)).trans (ht3.below (fun k hk=>by subst hk;exact h0.ged) (At hb1.size hb12.size));clear hd3 hbut3 ht3 hB2 hf2 hr2 hown2 hb2 hb12 h02 hB0 hb' h1 h0 hb1;have h3w:=h.old hb03;have hb3:=h3w.blk.rule;unfold jf at hb3;go_wp2_with (at_range;refine jL rfl _ _ rfl IM underlying83 rfl h3w.map ?_;intro w4 hg4 hgr4 hsz4);go_frame;have hnd:=h.names;have hb04:Below w3.heap.size w3 w4:=⟨hgr4.os,hgr4.tape,hgr4.output,oA,fun k hk=>hgr4.block k hk skA⟩;have hst:GU w r r0.d w3.heap.size r.fs [] {r0 with down:=r.down,armed:=r.armed,left:=r.left,pa:=pa,pc:=pc,plan:=r.plan} w4:=⟨fun _ hy=>hy,hnd,skA,hg4,h3.old hb04,rfl,Hd (by simp [aF.p,hfs0]),fun x hx=>Nat.ne_of_lt (h3.lt hx).2,hb03.size,hb03.trans (hb04.mono hb03.size)⟩;obtain ⟨it,hit⟩:=Le w3.heap.size;have HIT:=Hd hit;clear h3 h3w hb3 hb03 hg4 hgr4 hsz4 hb04;go_loopw [4,5] (fun _ _ wr=>∃ys done q,GU w r r0.d w3.heap.size ys done q wr) (fun _ _ wr=>wr.rangeLeft r.m w3.heap.size)
 case atStart=>exact ⟨r.fs,[],_,hst⟩
 case round=>
  clear hst;obtain ⟨ys,done,q,H⟩:=hrel;go_wp2_with (at_next;refine jM rfl _ rfl rfl H.ran ?_ ?_)
  .intro h0;subst h0;have hp:done.Perm r.fs:=(by have:=H.perm;rwa [Wq] at this);go_wp2_with fail;go_ret;refine ⟨q,by rw [H.d];rfl,?_,H.disk,H.below⟩;rw [H.p.out];exact ⟨hp.map bJ.p,rfl,rfl,rfl,rfl⟩
  .intro f hf w5 hgr5 hlt5 hgb5 hsz5 hen;have HG:=Hd hgr5;have HL:=Hd hlt5;have hitl:w3.heap.size<wr.heap.size:=H.ran.lt;have hitw:=H.it;have hk5:∀x,x≠w3.heap.size->x<wr.heap.size->w5.heap[x]? =wr.heap[x]? :=fun x h1 h2=>hgb5.block x h2 (by simpa using h1);have hd5:aG w5 w.heap.size q:=H.disk.keep fun x hx=>hk5 x (H.off x hx) (H.disk.lt hx).2;have hb05:Below w.heap.size w w5:=H.below.trans ⟨hgb5.os,hgb5.tape,hgb5.output,oA,fun k hk=>hk5 k oA oA⟩;have hfr:=H.sub f hf;have hfw:=h.files f hfr;have hf5:jv w5 B f:=hfw.keep (hb05.block _ hfw.blk.lt) (fun x hx=>hb05.block _ (hfw.row.lt hx).2.1);have hfB:=hf5.blk;have hsz:f.b.length<=1048576:=h.ok.size f.p (VY.2 ⟨_,hfr,rfl⟩);have hsu:f.sure<=f.b.length:=h.ok.sure f.p (VY.2 ⟨_,hfr,rfl⟩);have hok:cZ f.nm=true:=h.ok.named f.p (VY.2 ⟨_,hfr,rfl⟩);have hnz:f.nm.size<=40:=(by have:=hok;unfold cZ at this;simp at this;exact this.2);have hqB:=hd5.blk;unfold jf at hqB;rw [H.d] at hqB;have hne1:f.blk≠q.m:=hd5.ne_map hfB;have hne2:r0.d≠q.m:=(by have:=hd5.ne_map hd5.blk;rw [H.d] at this;exact this);clear hgr5 hlt5;go_wp2_with fail;have m0:∀W,But q.m w5.drew W->W.cell? ⟨r0.d,0,none⟩=some (.map (some q.m)):=fun W hW=>(Blk.but (w:=w5.drew) hqB hW hne2).rule 0;have m1:∀W,But q.m w5.drew W->W.cell? ⟨f.blk,0,none⟩=some (.slice f.a f.b.length f.c):=fun W hW=>(Blk.but (w:=w5.drew) hfB hW hne1).rule 0;have m2:∀W,But q.m w5.drew W->W.cell? ⟨f.blk,1,none⟩=some (.int .i64 (f.sure:Int)):=fun W hW=>(Blk.but (w:=w5.drew) hfB hW hne1).rule 1;refine cj (q.m) (.step 0 (.step 1 (.step 2 (.step 3 (.step 4 (.step 5 (.step 6 (.step 7 (.step 8 (.step 10 (.step 11 (.step 12 (.step 13 (.step 9 (.step 14 (.step 15 (.step 16 .done))))))))))))))))) krA krA cdA ?_
   repeat (first|refine tsA ?_|refine tqA ?_)
   refine an rfl rfl rfA (fun K hK=> ?_);go_wp2_with fail;refine (js f.a f.b.length f.c f.b w5.drew (hf5.row.read.keepAt fun _ _=>rfl) rfl oA).mono ?_;rintro e w6 ⟨a6,c6,rfl,hown6,hb6⟩;go_wp2_with fail;refine hK _ _ (But.of hb6) ?_;clear hK K m0 m1 m2;have hb56:Below w5.heap.size w5 w6:=ae (AT _ _).drew hb6;have hd6:=hd5.old hb56;have hq0:q.p.fs=done.map bJ.p:=(by rw [H.p.out]);have hnoq:∀g∈q.fs,g.nm≠f.nm:=by
    intro g hg e;have h1:g.p∈done.map bJ.p:=(by rw [<-hq0];exact VY.2 ⟨g,hg,rfl⟩);obtain ⟨g2,hg2,e2⟩:=VY.1 h1;have e3:g2.nm=f.nm:=by
     have:g2.p.name=g.p.name:=(by rw [e2]);exact this.trans e
    have hn2:((done++ys).map (·.nm)).Nodup:=(H.perm.map _).nodup_iff.2 hnd;rw [VG,XE] at hn2;exact hn2.2.2 g2.nm (VY.2 ⟨g2,hg2,rfl⟩) f.nm (VY.2 ⟨f,hf,rfl⟩) e3
   have hql:q.fs.length=done.length:=(by have:=WG List.length hq0;simpa [aF.p] using this);have hdl:done.length<64:=by
    have h1:=H.perm.length_eq;have h2:r.fs.length<=64:=(by have:=h.ok.count;simpa [aF.p] using this);have h3:0<ys.length:=List.length_pos_of_mem hf;rw [laA] at h1;omega
   obtain ⟨w7,hw7⟩:=Le (w6.alloc (.cells #[.slice a6 f.b.length c6,.int .i64 (f.sure:Int)] 112));have hb67:Below w6.heap.size w6 w7:=(by rw [hw7];exact (AT _ _).alloc (Lt _) _);have hd7:=hd6.old hb67;obtain ⟨w8,hrun,hm8,ht8⟩:=hd7.map.add IM underlying83 (by unfold maxLen;rw [lmA];omega) (XX underlying9 (s:=f.nm) mxA) (Mm w6.heap.size) (by
    rw [nu];intro hm;obtain ⟨g,hg,e⟩:=VY.1 hm;exact hnoq g hg (kt e))
   have hrun2:=hrun;rw [hw7] at hrun2
   repeat (first|refine tsA ?_|refine tqA ?_)
   refine an rfl rfl rfA (fun K hK=> ?_);go_wp2_with fail;refine hK _ _ (But.of ((AT _ _).alloc (Lt _) _)) ?_;clear hK K
   repeat (first|refine tsA ?_|refine tqA ?_)
   refine an rfl rfl rfA (fun K hK=> ?_);go_wp2_with fail;have hturn:But q.m w6 w8:=(But.of hb67).trans (But.turned ht8);refine hK _ _ (by rw [<-hw7];exact But.turned ht8) ?_;clear hK K;refine ap ?_;go_wp2_with fail;have hfile:jv w7 w.heap.size ⟨f.nm,w6.heap.size,a6,c6,f.b,f.sure⟩:=by
    refine ⟨by rw [hw7];exact Blk.new _ _ _,by have h1:=hb05.size;have h2:=hb56.size;show _<=w6.heap.size;omega,?_⟩;rw [hw7];refine ((Mid.of hown6).alloc _).lower ?_;have h1:=hb05.size;show w.heap.size<=w5.heap.size;exact h1
   have hlen6:∀x,eM q x->x<w5.heap.size:=fun x hx=>(hd5.lt hx).2;have hap:∀g∈q.fs,g.blk≠w6.heap.size/\∀x,bE g.a g.c=some x->bE a6 c6≠some x:=by
    intro g hg;have h1:=hlen6 _ (.inr (.inr (.inl ⟨g,hg,.inl rfl⟩)));have h2:=hb56.size;refine ⟨oA,fun x hx e=> ?_⟩;have h3:=hlen6 _ (.inr (.inr (.inl ⟨g,hg,.inr hx⟩)));have h4:=((Mid.of hown6).lt e).1;have h5:w5.drew.heap.size=w5.heap.size:=rfl;omega
   have hd8:=FE (f:=⟨f.nm,w6.heap.size,a6,c6,f.b,f.sure⟩) hd7 hnoq hok (by rw [hql];exact hdl) hfile hap hsu hsz hm8 ht8;have hb8:Below w.heap.size w w8:=by
    have h1:=hb05.trans (hb56.mono hb05.size);have h2:=h1.trans (hb67.mono h1.size);have hg:=ht8.grown;exact h2.trans ⟨hg.os,hg.tape,hg.output,hg.size,fun k hk=>hg.block k (by have:=h2.size;omega) (by
     have:=hd5.gem;simp only [Vn,ne_eq] at*;omega)⟩
   have e1:w8.heap[r.m]? =w5.heap[r.m]? :=by
    have h0:=h.map.lt;have:=hd5.gem;have h1:=hb05.size;rw [(hturn.block r.m (by have:=hb56.size;omega) oA),hb56.block _ oA]
   have e2:w8.heap[w3.heap.size]? =w5.heap[w3.heap.size]? :=by
    have h1:=H.off q.m (.inr (.inl rfl));rw [(hturn.block w3.heap.size (by have:=hb56.size;omega) (Vf h1)),hb56.block _ oA]
   have e3:w8.rangeLeft r.m w3.heap.size=w5.rangeLeft r.m w3.heap.size:=(by simp only [World.rangeLeft,e1,e2]);have HP:=H.p;refine ⟨⟨ys.filter fun g=>decide (g.nm≠f.nm),done++ [f],{q with fs:=q.fs++ [⟨f.nm,w6.heap.size,a6,c6,f.b,f.sure⟩]},fun y hy=>H.sub y (Vt.1 hy).1,(List.Sublist.map _ List.filter_sublist).nodup H.nd,?_,?_,hd8,H.d,Hd ?_,?_,H.it,hb8⟩,by rw [e3];exact HL.out⟩
   .rw [VM];exact ((qg hf H.nd).append_left done).trans H.perm
   .have:=HG.out.keep e1 e2;simpa only [ne_eq,decide_not] using this
   .have e:aF.p {q with fs:=q.fs++ [⟨f.nm,w6.heap.size,a6,c6,f.b,f.sure⟩]}={q.p with fs:=q.p.fs++ [f.p]}:=(by simp [aF.p,bJ.p]);rw [e,HP.out];simp
   .rintro x (hx|hx|⟨g,hg,hx⟩|hx)
    .exact H.off x (.inl hx)
    .exact H.off x (.inr (.inl hx))
    .rcases VQ.1 hg with hg|hg
     .exact H.off x (.inr (.inr (.inl ⟨g,hg,hx⟩)))
     .obtain rfl:=VH.1 hg;rcases hx with hx|hx
      .have:=hb56.size;show x≠w3.heap.size;have hx':x=w6.heap.size:=hx;omega
      .have h4:=((Mid.of hown6).lt hx).1;have h5:w5.drew.heap.size=w5.heap.size:=rfl;show x≠w3.heap.size;omega
    .exact H.off x (.inr (.inr (.inr hx)))
end
section
open Go.RowKit Go.Maps
theorem Own.ofBlk {w:World} {B g:Nat} {e:TypeId} {vs:List Value} (h:Blk w g vs.toArray e) (hB:B<=g) (hl:vs.length<=maxLen):Own w B e 1 (some ⟨g,0,none⟩) vs.length vs.length vs:=
 ⟨by rw [Vk],.inr ⟨g,vs.length,_,rfl,hB,h,Lt _,hl,skA,skA⟩⟩
theorem av.ofBlk {w:World} {B g n:Nat} {l:List Int} (h:Blk w g (l.map (Value.int .i64)).toArray 3) (hB:B<=g) (hn:n=l.length) (hl:l.length<=1000000) (hw:∀x∈l,eO x):av w B ⟨some ⟨g,0,none⟩,n,n⟩ l:=by
 have ho:=Own.ofBlk h hB (by rw [lmA];unfold maxLen;omega);rw [lmA] at ho;subst hn;exact ⟨ho,ho.row,rfl,Lt _,by show l.length<=maxLen;unfold maxLen;omega,by show l.length<=_;omega,hw⟩
theorem yW (w:World):Calls prog 45 #[.int .i64 0] w fun e w'=>∃hx,e= .returned (dR vj hx)/\aX w' w.heap.size vj hx/\Below w.heap.size w w':=by
 go_enter func45,ntmps45;go_upto_region 1 with (fail);obtain ⟨X,hX⟩:=Le w.heap.size;rw [<-hX];refine af (fun W=>Blk W X bR 40/\Below X w W/\W.heap.size=X+1) ⟨by rw [hX];exact Blk.new _ _ _,by rw [hX];exact cL,by rw [hX];simp⟩ ?_;rintro W1 ⟨bX,hb1,hz1⟩;have HX:=Hd hX;have HZ:=Hd hz1;clear hX hz1;go_wp2_with (refine eP rfl 40 aZ (.tmp 2) (.tmp 9) rfl rfl rfl (((bX.alloc _).alloc _).alloc _) rfl dcA rfl ?_);obtain ⟨N,hN⟩:=Le W1.heap.size;have b0:=Blk.new3 W1 #[.int .i64 1,.int .i64 2] 3 (.cells #[.int .i64 3] 3) (.cells #[.int .i64 5] 3);have b1:=Blk.new3' W1 #[.int .i64 3] 3 (.cells #[.int .i64 1,.int .i64 2] 3) (.cells #[.int .i64 5] 3);have b2:=Blk.new3'' W1 #[.int .i64 5] 3 (.cells #[.int .i64 1,.int .i64 2] 3) (.cells #[.int .i64 3] 3);have hz:=HZ.out;rw [<-hN] at b0 b1 b2 hz⊢;have hXw:w.heap.size<=X:=VR HX.out.symm;have hb3:Below X w (((W1.alloc (.cells #[.int .i64 1,.int .i64 2] 3)).alloc (.cells #[.int .i64 3] 3)).alloc (.cells #[.int .i64 5] 3)):=(by have:=HX.out;exact cL);have bX3:Blk (((W1.alloc (.cells #[.int .i64 1,.int .i64 2] 3)).alloc (.cells #[.int .i64 3] 3)).alloc (.cells #[.int .i64 5] 3)) X bR 40:=((bX.alloc _).alloc _).alloc _;generalize (((W1.alloc (.cells #[.int .i64 1,.int .i64 2] 3)).alloc (.cells #[.int .i64 3] 3)).alloc (.cells #[.int .i64 5] 3))=W3 at*;have wi:∀l:List Int,(∀x∈l,0<=x/\x<=1000)->∀x∈l,eO x:=fun l h x hx=>by
  have:=h x hx;obtain ⟨n,rfl⟩:∃n:Nat,x=(n:Int):=⟨x.toNat,oA⟩;exact gG oA
 refine cv (g:=X) rfl aZ rfl (bX3.setRow _) rfl rfl ⟨⟨⟨some ⟨N,0,none⟩,2,2⟩,⟨some ⟨N+1,0,none⟩,1,1⟩,⟨some ⟨N+2,0,none⟩,1,1⟩,lm⟩,rfl,?_,?_⟩
 .exact ⟨nI.kind,nI.game,nI.table,nI.fmt,nI.n0,nI.n1,av.ofBlk (l:=[1,2]) (b0.setRow_other _ _ oA) oA rfl dcA (wi _ dcA),av.ofBlk (l:=[3]) (b1.setRow_other _ _ oA) oA rfl dcA (wi _ dcA),av.ofBlk (l:=[5]) (b2.setRow_other _ _ oA) oA rfl dcA (wi _ dcA),rfl,rfl,rfl,rfl,av.nil _ _,aN.nil _ _⟩
 .rw [<-HX.out];exact ag hb3 (Lt _) _
theorem DI (m:List UInt8):kV wk0 nmJ m=0/\sg wk0 nmJ m=ee nmJ [] 0/\nA wk0 nmJ m=[]/\qB wk0 nmJ m=0/\qH wk0 nmJ m=[]:=uI okJ m
def KV (w:World) (B d v:Nat) (m:List UInt8) (l:List ao) (ls:List (List UInt8)):Prop:=
 ∃r V,VL w B r V/\r.d=d/\V.v=v/\r.p=ee nmJ (asQ ls) (asQ ls).length/\V.m=m/\V.l=l/\V.R.ls=ls/\V.R.nm=nmJ/\V.down=false
theorem Lj (w:World) (B:Nat) (r:aF) (h:aG w B r) (hB:B<=w.heap.size) (hp:r.p=wk0) (ma:Option Addr) (mn mc:Nat) (m:List UInt8) (hma:ah w ma m) (hml:m.length=mn) (hmz:mn<=1000000) (hmf:m≠ []->∀ad,ma=some ad->¬eM r ad.block):
  Calls prog 11 #[.pointer (some ⟨r.d,0,none⟩),.string nmJ,.slice ma mn mc] w fun e w'=>∃v,e= .returned (.tuple #[.pointer (some ⟨v,0,none⟩),.int .i64 0,.int .i64 0])/\KV w' B r.d v m [] []/\Below B w w':=by
 refine (lV w B r nmJ h hB dcA ma mn mc m hma hml hmz hmf).mono ?_;rintro e w' ⟨r',hp',hst,hres⟩;obtain ⟨k1,k2,k3,k4,k5⟩:=DI m;rw [hp] at hp' hres;rcases hres with ⟨h1,_⟩|⟨_,V,rfl,hV,hm,hl,hls,hnm,hdn,_⟩
 .exact absurd k1 h1
 .exact ⟨V.v,by rw [k4];rfl,⟨r',V,hV,hst.d,rfl,by rw [hp',k2];rfl,hm,by rw [hl,k3],by rw [hls,k5],hnm,hdn⟩,hst.below h hB⟩
theorem kput {w0 w:World} {B d v:Nat} {m:List UInt8} {l:List ao} {ls:List (List UInt8)} (h:KV w0 B d v m l ls) (hb:Below w0.heap.size w0 w) (hB:B<=w0.heap.size) {x:ao} {hx:aW} (hdo:aX w w0.heap.size x hx)
  (hm:il x=true) (hf:bp l x=true) (hz:(bZ x).length<=65000) (hl:ls.length<4096) (hs:(asQ ls).length+(bZ x).length+48<=1048576) (ha:(dq x.act).length<100000000000):
  Calls prog 13 #[.pointer (some ⟨v,0,none⟩),dR x hx] w fun e w'=>e= .returned (.int .i64 0)/\KV w' B d v m (l++ [x]) (ls++ [iG m l x])/\Below B w w':=by
 obtain ⟨r,V,h,rfl,rfl,hp,rfl,rfl,rfl,hnm,hdn⟩:=h;have h1:=h.old hb;have hB1:B<=w.heap.size:=At hB hb.size;refine (sf w B r V h1 hB1 x hx (fun W ht=>(hdo.turn ht fun y hy=>(h.lt hy).2).at) ha).mono ?_;rintro e w' ⟨r',V',rfl,hst,hp',hl',hls',hnm',hdn'⟩;obtain ⟨k1,k2,k3,k4⟩:=BO (b:=asQ V.R.ls) (s:=(asQ V.R.ls).length) hnm hdn hm hf hz hl hs;rw [hp] at hp' hl' hls' hdn'⊢;rw [k1,if_pos rfl] at hl';rw [k1];exact ⟨rfl,⟨r',V',hst.at',hst.d,hst.v,by rw [hp',k2,nG],hst.m,hl',by rw [hls',k3],hnm'.trans hnm,by rw [hdn',k4]⟩,hst.below h1 hB1⟩
theorem kbad {w:World} {B d v:Nat} {m:List UInt8} {l:List ao} {ls:List (List UInt8)} (h:KV w B d v m l ls) (hB:B<=w.heap.size) {x:ao} {hx:aW} (hdo:aX w w.heap.size x hx)
  (hf:(il x&&bp l x)=false) (ha:(dq x.act).length<100000000000):
  Calls prog 13 #[.pointer (some ⟨v,0,none⟩),dR x hx] w fun e w'=>e= .returned (.int .i64 2)/\KV w' B d v m l ls/\Below B w w':=by
 obtain ⟨r,V,h,rfl,rfl,hp,rfl,rfl,rfl,hnm,hdn⟩:=h;refine (sf w B r V h hB x hx (fun W ht=>(hdo.turn ht fun y hy=>(h.lt hy).2).at) ha).mono ?_;rintro e w' ⟨r',V',rfl,hst,hp',hl',hls',hnm',hdn'⟩;have e0:jF V x=false:=hf;have nd:¬V.down=true:=(by rw [hdn];simp);have k1:qM r.p V x=2:=(by unfold qM;rw [if_neg nd,if_pos e0]);have k2:xS r.p V x=r.p:=(by unfold xS;rw [if_neg nd,if_pos e0]);have k3:mm r.p V x=V.R.ls:=(by unfold mm;rw [if_neg nd,if_pos e0]);have k4:mo r.p V x=false:=(by unfold mo;rw [if_neg nd,if_pos e0]);rw [k1,if_neg dcA] at hl';rw [k1];exact ⟨rfl,⟨r',V',hst.at',hst.d,hst.v,by rw [hp',k2,hp],hst.m,hl',by rw [hls',k3],hnm'.trans hnm,by rw [hdn',k4]⟩,hst.below h hB⟩
theorem Lk (w:World) (B:Nat) (r:aF) (h:aG w B r) (hB:B<=w.heap.size) (ma:Option Addr) (mn mc:Nat) (m:List UInt8) (he:kV r.p nmJ m=0) (hma:ah w ma m) (hml:m.length=mn) (hmz:mn<=1000000) (hmf:m≠ []->∀ad,ma=some ad->¬eM r ad.block):
  Calls prog 11 #[.pointer (some ⟨r.d,0,none⟩),.string nmJ,.slice ma mn mc] w fun e w'=>∃d V,e= .returned (.tuple #[.pointer (some ⟨V.v,0,none⟩),.int .i64 (qB r.p nmJ m:Int),.int .i64 0])/\V.l=nA r.p nmJ m/\aR w' B d V/\(∀x,dJ V.R x\/dW V x->w.heap.size<=x)/\aJ (eM r) w w':=by
 refine (lV w B r nmJ h hB dcA ma mn mc m hma hml hmz hmf).mono ?_;rintro e w' ⟨r',hp',hst,hres⟩;rcases hres with ⟨h1,_⟩|⟨_,V,rfl,hV,hm,hl,hls,hnm,hdn,hhi⟩
 .exact absurd he h1
 .exact ⟨_,V,rfl,hl,hV.vault,hhi,hst.turn⟩
theorem pt (w:World) (o:Obj):(w.alloc o).heap.size=w.heap.size+1:=skA
theorem IE {p:aM} (h:FL p wkD):p=wkD:=by
 have h1:=h.fs;obtain ⟨fs,a,b,c,d⟩:=p;have e:fs=wkD.fs:=List.perm_singleton.1 h1;obtain ⟨e1,e2,e3,e4⟩:=h.rest;have e1:a=wkD.down:=e1;have e2:b=wkD.armed:=e2;have e3:c=wkD.left:=e3;have e4:d=wkD.plan:=e4;subst e e1 e2 e3 e4;rfl
theorem JC (w:World) (B:Nat):aX w B JD dI:=
 ⟨by unfold wf8;decide,by unfold eO;decide,rfl,Vo _,Vo _,Vo _,av.nil _ _,av.nil _ _,av.nil _ _,⟨rfl,rfl,rfl,rfl,av.nil _ _,aN.nil _ _⟩⟩
theorem Ja (w:World) (B:Nat):aX w B zU dI:=
 ⟨by unfold wf8;decide,by unfold eO;decide,rfl,Vo _,Vo _,Vo _,av.nil _ _,av.nil _ _,av.nil _ _,⟨by unfold wf8;decide,rfl,rfl,rfl,av.nil _ _,aN.nil _ _⟩⟩
theorem jj (w:World):Calls prog 9 #[] w fun e w'=>e= .returned (.bool true)/\Below w.heap.size w w':=by
 have kc:=fun (w:World) (C:Array Value) (n c:Nat)=>Lib.run_convert_bytes_const (P:=prog) w 22 5 C n c underlying22 underlying5;go_enter func9,ntmps9;go_wp2_with fail;refine (oz w).mono ?_;rintro e w1 ⟨r1,rfl,hp1,hd1,hb1⟩;have HP1:=Hd hp1.out;clear hp1;have hz1:=hb1.size;obtain ⟨B,hB⟩:=Le w.heap.size;rw [<-hB] at hd1 hb1 hz1;go_wp2_with fail;refine (Lj _ B r1 (hd1.old ((AT _ _).alloc (Lt _) _)) soA HP1.out _ 6 6 fD (ah.new w1 #[.int .u8 109,.int .u8 97,.int .u8 115,.int .u8 116,.int .u8 101,.int .u8 114] 5 (6,7) fD rfl) rfl oA (fun _ ad e hf=>by cases e;have:=(hd1.lt hf).2;simp at this)).mono ?_;rintro e w2 ⟨v,rfl,hk2,hb2⟩;have hb02:Below B w w2:=(hb1.alloc hz1 _).trans hb2;have hz2:B<=w2.heap.size:=At (VR hB) hb02.size;generalize hd:r1.d=d at*;clear hb1 hb2 hd1 HP1 hz1 hd;go_wp2_with fail;refine (yW w2).mono ?_;rintro e w3 ⟨h3,rfl,hdo3,hb3⟩;have hz3:B<=w3.heap.size:=At hz2 hb3.size;have hb03:Below B w w3:=hb02.trans (hb3.mono hz2);have hc4:=kput hk2 hb3 hz2 hdo3 BW CB (by rw [kA];decide) dcA (by rw [kA];decide) dkA;clear hk2 hb3 hdo3 hb02;rw [aH] at hc4⊢;go_wp2_with fail;refine hc4.mono ?_;rintro e w4 ⟨rfl,hk4,hb4⟩;have hb04:Below B w w4:=hb03.trans hb4;have hz4:B<=w4.heap.size:=At (VR hB) hb04.size;clear hc4 hb4 hb03 hz3;go_wp2_with fail;have hc5:=kbad (x:=JD) (hx:=dI) hk4 hz4 (JC _ _) (by rw [Wf,Je,Bool.and_false]) dkA;refine hc5.mono ?_;clear hc5 hk4;rintro e w5 ⟨rfl,hk5,hb5⟩;have hb05:Below B w w5:=hb04.trans hb5;have hz5:B<=w5.heap.size:=At (VR hB) hb05.size;clear hb5 hb04 hz4;go_wp2_with fail;have hc6:=kput (x:=zU) (hx:=dI) hk5 (AT _ _) hz5 (Ja _ _) BV CA (by have:=sY;omega) dcA (by have:=sY;have:=Dw;simp only [Wf,asQ,WY,XF,List.flatten_cons,List.flatten_nil,laA,bM,Wy];unfold L1 at this;omega) dkA;refine hc6.mono ?_;clear hc6 hk5;rintro e w6 ⟨rfl,hk6,hb6⟩;have hb06:Below B w w6:=hb05.trans hb6;have hz6:B<=w6.heap.size:=At (VR hB) hb06.size;clear hb6 hb05 hz5;obtain ⟨r6,V6,hv6,hd6,rfl,hp6,-⟩:=hk6;have hp6:r6.p=wkD:=hp6;have HP6:=Hd hp6;clear hp6;go_wp2_with fail;have hc7:=ve w6 B r6 none 0 0 [] hv6.disk hz6 (aw.nil _ _) rfl mxA (fun ad e=>by cases e) (fun ad e=>by cases e);rw [hd6] at hc7;refine hc7.mono ?_
 clear hc7;rintro e w7 ⟨r7,rfl,hp7,hst7⟩;have hb07:Below B w w7:=hb06.trans (hst7.below hv6.disk hz6);have hz7:B<=w7.heap.size:=At (VR hB) hb07.size;have hd7:=hst7.at';have hdd7:=hst7.d.trans hd6;rw [HP6.out] at hp7⊢;have HP7:=Hd hp7;clear hp7 hst7 hv6 hd6 HP6 hb06 hz6;go_wp2_with fail;have hc8:=Ez w7 B r7 hd7;rw [hdd7] at hc8;refine hc8.mono ?_;clear hc8;rintro e w8 ⟨rfl,r8,hp8,hst8⟩;have hb08:Below B w w8:=hb07.trans (hst8.below hd7 hz7);have hz8:B<=w8.heap.size:=At (VR hB) hb08.size;have hd8:=hst8.at';have hdd8:=hst8.d.trans hdd7;rw [HP7.out,DH] at hp8;rw [HP7.out];have HP8:=Hd hp8;clear hp8 hst8 hd7 hdd7 HP7 hb07 hz7;go_wp2_with fail;have hc9:=CN w8 B r8 hd8 (by have:=WG aM.plan HP8.out;have e:r8.plan=[]:=this;rw [e];decide);rw [hdd8] at hc9;refine hc9.mono ?_;clear hc9;rintro e w9 ⟨r9,rfl,hlk,hd9,hb9⟩;have hp9:r9.p=wkD:=IE (by rw [HP8.out] at hlk;exact hlk);have HP9:=Hd hp9;have hb09:Below B w w9:=hb08.trans (hb9.mono hz8);have hz9:B<=w9.heap.size:=At (VR hB) hb09.size;have hd89:=hd8.old hb9;have hz89:=hb9.size;clear hp9 hlk hb9 hb08;go_wp2_with fail;obtain ⟨k1,k2,k3⟩:=DG;have hcA:=Lk _ B r8 (hd89.old ((AT _ _).alloc (Lt _) _)) soA _ 6 6 fD (by rw [HP8.out];exact k1) (ah.new w9 #[.int .u8 109,.int .u8 97,.int .u8 115,.int .u8 116,.int .u8 101,.int .u8 114] 5 (6,7) fD rfl) rfl oA (fun _ ad e hf=>by cases e;have:=(hd89.lt hf).2;simp at this);rw [hdd8,HP8.out,k2,k3] at hcA;refine hcA.mono ?_;clear hcA k1 k2 k3;rintro e wA ⟨dA,VA,rfl,hlA,hvA,hhA,htA⟩;have hd9A:aG wA w8.heap.size r9:=by
  refine (hd9.old ((AT _ _).alloc (Lt _) _)).turn htA fun x hx hf=> ?_;have q1:=(hd9.lt hx).1;have q2:=(hd8.lt hf).2;omega
 have hzA:=htA.size;have hb0A:Below B w wA:=(hb09.alloc hz9 _).trans (htA.below (fun x hx=>(hd89.lt hx).1) soA);have HLA:=Hd hlA;have hr9:∀x,eM r9 x->x<w9.heap.size:=fun x hx=>(hd9.lt hx).2;clear hlA htA hd9 hd89 hd8 HP8 hdd8 hb09 hz89;simp only [pt] at hzA hhA;go_wp2_with fail;obtain ⟨k1,k2,k3⟩:=DF;have hcB:=Lk _ w8.heap.size r9 (hd9A.old ((AT _ _).alloc (Lt _) _)) (by simp;have:=(hd9A.lt (.inl rfl));omega) _ 5 5 vC (by rw [HP9.out];exact k1) (ah.new wA #[.int .u8 111,.int .u8 116,.int .u8 104,.int .u8 101,.int .u8 114] 5 (5,6) vC rfl) rfl oA (fun _ ad e hf=>by cases e;have:=(hd9A.lt hf).2;simp at this);rw [HP9.out,k2] at hcB;obtain ⟨n,hn⟩:=Le (qB wkD nmJ vC);rw [<-hn] at hcB k3;clear hn k2 k1;refine hcB.mono ?_;clear hcB;rintro e wB ⟨dB,VB,rfl,hlB,hvB,hhB,htB⟩;have hvAB:aR wB B dA VA:=(hvA.old ((AT _ _).alloc (Lt _) _)).keep fun x hx=>htB.block x (by have:=(hvA.lt hx).2;simp;omega) fun hf=>by
  have q1:=hhA x hx;have q2:=hr9 x hf;omega
 have hzB:=htB.size;simp only [pt] at hzB;have hb0B:Below B w wB:=(hb0A.alloc oA _).trans (htB.below (fun x hx=>by have:=(hd9A.lt hx).1;omega) soA);have HLB:=Hd hlB;clear hlB hhB htB hd9A hvA hhA hr9 hb0A HP9;go_wp2_with fail;refine (mQ wB B dA VA hvAB).mono ?_;rintro e wC ⟨aC,cC,dsC,rfl,hlC,hoC,hbC⟩;have hnC:dsC.length=2:=by
  have:=WG List.length hlC;rw [lmA,HLA.out] at this;exact this
 rw [hnC];have hvAC:=hvAB.old hbC;have hvBC:=hvB.old hbC;have hb0C:Below B w wC:=hb0B.trans (hbC.mono oA);have hzC:=hbC.size;clear hoC hlC hnC hbC hvAB hvB hb0B;go_wp2_with fail;refine (yT wC B dA VA hvAC).mono ?_;rintro e wD ⟨rfl,hbD⟩;rw [HLA.out,show ((aP [vj,zU]:Nat):Int)=1 by decide];have hvBD:=hvBC.old hbD;have hb0D:Below B w wD:=hb0C.trans (hbD.mono oA);have hzD:=hbD.size;have hnn:(n:Int)>0:=oA;clear hbD hvAC hvBC hb0C;go_wp2_with fail;refine (mQ wD _ dB VB hvBD).mono ?_;rintro e wE ⟨aE,cE,dsE,rfl,hlE,hoE,hbE⟩;have hnE:dsE.length=0:=by
  have:=WG List.length hlE;rw [lmA,HLB.out] at this;exact this
 rw [hnE];have hb0E:Below B w wE:=hb0D.trans (hbE.mono oA);clear hoE hlE hnE hbE hvBD hb0D;go_wp2_with fail;go_ret;rw [hB] at hb0E;exact ⟨rfl,hb0E⟩
end
section
open Go.RowKit
def mA (x:ao):Bool:=decide (1500<x.d0.length+x.d1.length+x.dr.length+x.act.ids.length+x.act.pairs.length)||decide (1000<x.fmt.size+x.n0.size+x.n1.size)
theorem yS (p:ao) (h:aW) (w:World) (hd:dC w p h):Calls prog 12 #[dR p h] w fun e w'=>e= .returned (.bool (mA p))/\Below w.heap.size w w':=by
 have l0:=hd.d0.2.1;have l1:=hd.d1.2.1;have l2:=hd.dr.2.1;have l3:=hd.act.ids.2.1;have l4:=hd.act.pairs.2.1;have z0:=hd.d0.2.2.2.2.1;have z1:=hd.d1.2.2.2.2.1;have z2:=hd.dr.2.2.2.2.1;have z3:=hd.act.ids.2.2.2.2.1;have z4:=hd.act.pairs.2.2.2.2.1;have y0:p.fmt.size<=140737488351232:=hd.fmt;have y1:p.n0.size<=140737488351232:=hd.n0;have y2:p.n1.size<=140737488351232:=hd.n1;have hg:mA p=(decide (1500<h.d0.n+h.d1.n+h.dr.n+h.act.ids.n+h.act.pairs.n)||decide (1000<p.fmt.size+p.n0.size+p.n1.size)):=by
  unfold mA;rw [l0,l1,l2,l3,l4]
 rw [hg];clear hg l0 l1 l2 l3 l4;obtain ⟨s1,hs1⟩:=Le (h.d0.n+h.d1.n);obtain ⟨s2,hs2⟩:=Le (s1+h.dr.n);obtain ⟨s3,hs3⟩:=Le (s2+h.act.ids.n);obtain ⟨s4,hs4⟩:=Le (s3+h.act.pairs.n);obtain ⟨r1,hr1⟩:=Le (p.fmt.size+p.n0.size);obtain ⟨r2,hr2⟩:=Le (r1+p.n1.size);rw [<-hs1,<-hs2,<-hs3,<-hs4,<-hr1,<-hr2];have t1:IntKind.i64.wrap ((h.d0.n:Int)+(h.d1.n:Int))=(s1:Int):=(by rw [VZ];omega);have t2:IntKind.i64.wrap ((s1:Int)+(h.dr.n:Int))=(s2:Int):=(by rw [VZ];omega);have t3:IntKind.i64.wrap ((s2:Int)+(h.act.ids.n:Int))=(s3:Int):=(by rw [VZ];omega);have t4:IntKind.i64.wrap ((s3:Int)+(h.act.pairs.n:Int))=(s4:Int):=(by rw [VZ];omega);have u1:IntKind.i64.wrap ((p.fmt.size:Int)+(p.n0.size:Int))=(r1:Int):=(by rw [VZ];omega);have u2:IntKind.i64.wrap ((r1:Int)+(p.n1.size:Int))=(r2:Int):=(by rw [VZ];omega);clear hs1 hs2 hs3 hs4 hr1 hr2 z0 z1 z2 z3 z4 y0 y1 y2 hd;rw [aH];have fin:∀x:World,Below w.heap.size w x->Below w.heap.size w x:=fun _ h=>h;go_enter func12,ntmps12;go_upto_region 1 with (fail);refine af (fun W=>Blk W w.heap.size (ak p h).toArray 40/\Below w.heap.size w W) ⟨Blk.new _ _ _,cL⟩ ?_;obtain ⟨X,hX⟩:=Le w.heap.size;rw [<-hX];have HX:=Hd hX;clear hX;rintro W1 ⟨bX,hb1⟩;have A:=bX.rule;unfold ak at A;by_cases hs:1500<s4
 .have t5:decide ((s4:Int)>1500)=true:=soA;have t6:decide ((1500:Int)<(s4:Int))=true:=soA;go_wp2_with fail;go_ret;rw [HX.out] at hb1;exact ⟨by rw [VO hs];rfl,hb1⟩
 .have t5:decide ((s4:Int)>1500)=false:=soA;have t6:decide ((1500:Int)<(s4:Int))=false:=soA;have HS:=Hd hs;clear hs;have t7:decide ((1000:Int)<(r2:Int))=decide (1000<r2):=(by rw [decide_eq_decide];omega);go_wp2_with fail;go_ret;rw [HX.out] at hb1;exact ⟨by rw [Vd HS.out,Bool.false_or];first|rfl|(rw [<-t7];rfl),hb1⟩
theorem yw {p:ao} (h:mA p=false):p.d0.length+p.d1.length+p.dr.length+p.act.ids.length+p.act.pairs.length<=1500/\p.fmt.size+p.n0.size+p.n1.size<=1000:=by
 unfold mA at h;simp only [Bool.or_eq_false_iff,decide_eq_false_iff_not] at h;omega
theorem GJ (p:bq):(dq p).length=48+8*p.ids.length+16*p.pairs.length:=by
 unfold dq;simp only [laA,au,iW,yA];omega
theorem JG {p:ao} (h:mA p=false):(dq p.act).length<100000000000:=by
 have h1:=(yw h).1;have h2:=GJ p.act;omega
theorem Fy (p:ao):(bZ p).length<=200+(dq p.act).length+p.fmt.size+p.n0.size+p.n1.size+8*p.d0.length+8*p.d1.length+8*p.dr.length:=by
 unfold bZ;split
 .simp only [laA,au,VT,Wy];omega
 .simp only [laA,au,VT,Wy,iW,fX,dm];omega
end
end Go.Proofs.YtioigihakjlopaaGreat
