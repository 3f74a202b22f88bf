import Derived.Test.YtioigihakjlopaaGreatVF32
namespace Go.Proofs.YtioigihakjlopaaGreat
open Go.Proofs.Tryz
set_option linter.unusedVariables false
set_option linter.unusedSimpArgs false
set_option maxHeartbeats 16000000
set_option maxRecDepth 100000
section
open Go.RowKit Go.Shelf Go.Maps
attribute [local go_sem] Oper.semAt_some
theorem kU {n l:Nat} {P:Program} {w:World} {ops:Array Oper} {rest:List Oper} {o:Oper} {a:Act} {Q:Exit->Act->World->Prop} (hgd:o.guard=none) (hd:sR o=true) (ty:TypeId) {k:Nat} (hT:lR P ty k) (x y:Operand) (ho:o.op= .store ty x y)
  {g o':Nat} {cells:Array Value} (hx:a.eval x= .pointer (some ⟨g,o',none⟩)) (hy:a.eval y= .agg cells) {t:TypeId} {old:Array Value} (hB:Blk w g old t) (hn:cells.size=k) (ho':o'+k<=old.size) (h1:cells.toList.all (·.oneCell')=true)
  (h:wpListIn (Fence.wide.inRound l) n P ops Q rest (a.put o.dst undef) (w.setRow g (cD old o' cells))):wpListIn (Fence.wide.inRound l) n P ops Q (o::rest) a w:=
 wpListIn_plain hgd fun K hK'=>rq hd (bf ty hT x y ho hx hy hB hn ho' h1 (hK' _ _ h))
theorem lx {n l:Nat} {P:Program} {w:World} {ops:Array Oper} {rest:List Oper} {o:Oper} {a:Act} {Q:Exit->Act->World->Prop} (hgd:o.guard=none) (hdf:sR o=true) (ty:TypeId) {k:Nat} (hT:lR P ty k) (x:Operand) (ho:o.op= .load ty x)
  {g:Nat} (hx:a.eval x= .pointer (some ⟨g,0,none⟩)) {t:TypeId} {cs:Array Value} (hB:Blk w g cs t) (hn:cs.size=k)
  (h:wpListIn (Fence.wide.inRound l) n P ops Q rest (a.put o.dst (.agg cs)) w):wpListIn (Fence.wide.inRound l) n P ops Q (o::rest) a w:=by
 obtain ⟨⟨d,hu,hd⟩,hi⟩:=hT;exact wpListIn_plain hgd fun K hK'=>rq hdf (wp_load_row ty x ho g hx t cs (0,0) d hB hu (by cases d<;>simp_all [GI]) (by rw [hi,hn]) (hK' _ _ h))
theorem oK {W W':World} {row:Option Nat} {g:Nat} {cs:Array Value} {t:TypeId} (h:Blk W g cs t) (hg:W.grownBy W' row) (hr:∀r,row=some r->∃o:Obj,W.heap[r]? =some o/\o.isCells=false):W'.heap[g]? =W.heap[g]? :=grownBy_keeps_cells hg hr h rfl
section
variable {w w':World} {B:Nat} {r:aF} {V:aV}
theorem pW {d:Nat} {R:jP} (h:ld w B d R) {x:Nat} (hx:dJ R x):∃cs t,Blk w x cs t:=by
 rcases hx with rfl|⟨ad,ha,rfl⟩|⟨ad,m,C,hm,rfl⟩
 .exact ⟨_,_,h.blk⟩
 .obtain ⟨_,_,cur,hb⟩:=h.rows.1.block_lt ha;exact ⟨_,_,hb⟩
 .obtain ⟨_,_,cur,hb⟩:=h.rows.inner hm;exact ⟨_,_,hb⟩
theorem lz {d:Nat} (h:aR w B d V) {x:Nat} (hx:dW V x):(x=V.mg\/x=V.mb)\/∃cs t,Blk w x cs t:=by
 rcases hx with rfl|⟨ad,ha,rfl⟩|⟨ad,ha,rfl⟩|⟨y,hy,hi⟩|rfl|rfl|⟨g,hg,rfl⟩|⟨y,hy,rfl⟩
 .exact .inr ⟨_,_,h.blk⟩
 .obtain ⟨_,_,cur,hb⟩:=h.master.block_lt ha;exact .inr ⟨_,_,hb⟩
 .obtain ⟨_,_,cur,hb⟩:=h.deeds.block_lt ha;exact .inr ⟨_,_,hb⟩
 .obtain ⟨_,_,cur,t,hb,_⟩:=(h.each y hy).innerLt hi;exact .inr ⟨_,_,hb⟩
 .exact .inl (.inl rfl)
 .exact .inl (.inr rfl)
 .obtain ⟨_,_,cur,hb⟩:=(h.rows g hg).block_lt rfl;exact .inr ⟨_,_,hb⟩
 .exact .inr ⟨_,_,(h.boxes y hy).2.2⟩
theorem no (h:aG w B r) {x:Nat} (hx:eM r x):x=r.m\/∃cs t,Blk w x cs t:=by
 rcases hx with rfl|rfl|⟨f,hf,rfl|hx⟩|hx
 .exact .inr ⟨_,_,h.blk⟩
 .exact .inl rfl
 .exact .inr ⟨_,_,(h.files f hf).blk⟩
 .obtain ⟨_,_,cur,hb⟩:=(h.files f hf).row.lt hx;exact .inr ⟨_,_,hb⟩
 .rw [WR] at hx;obtain ⟨a,ha,rfl⟩:=hx;obtain ⟨_,_,cur,hb⟩:=h.plan.block_lt ha;exact .inr ⟨_,_,hb⟩
theorem VL.grown (h:VL w B r V) {C:Nat} (hm:r.m<C/\V.mg<C/\V.mb<C) {row:Option Nat} (hg:w.grownBy w' row) (hr:∀q,row=some q->C<=q/\∃o:Obj,w.heap[q]? =some o/\o.isCells=false):VL w' B r V:=h.keep fun x hx=>by
 have hlt:=(h.lt hx).2;have cellsKeep:(∃cs t,Blk w x cs t)->w'.heap[x]? =w.heap[x]? :=fun ⟨cs,t,hb⟩=>oK hb hg fun q e=>(hr q e).2;have mapKeep:x<C->w'.heap[x]? =w.heap[x]? :=fun hx=>hg.block x hlt fun e=>(by have:=(hr x e.symm).1;omega);rcases hx with hx|hx|hx
 .rcases no h.disk hx with rfl|hc
  .exact mapKeep hm.1
  .exact cellsKeep hc
 .exact cellsKeep (pW h.vault.log hx)
 .rcases lz h.vault hx with (rfl|rfl)|hc
  .exact mapKeep hm.2.1
  .exact mapKeep hm.2.2
  .exact cellsKeep hc
end
structure OpS (B:Nat) (w:World) (r0 r:aF) (R:jP) (m:List UInt8) (P A H X C:Nat) (ls:List (List UInt8)) (wh:Bool) (ka k:Nat) (V:aV) (W:World):Prop where
 vl:VL W B r V
 ptr:Blk W P #[.pointer (some ⟨V.v,0,none⟩)] 28
 at':Blk W A #[.int .i64 ((asQ (ls.take ka)).length:Int)] 3
 wh':Blk W H #[.bool wh] 4
 eqs:V.R=R/\V.m=m/\V.down=false
 maps:r.m<C/\V.mg<C/\V.mb<C
 new:∀x,jU r V x->eM r0 x\/w.heap.size<=x
 newR:∀x,dW V x->w.heap.size<=x
 sep:∀x,jU r V x->x≠P/\x≠A/\x≠H/\x≠X
 len:V.l.length=k
 scan:Hid (fk m [] ls=fk m V.l (ls.drop k))
 turn:aJ (eM r0) w W
 big:C<=W.heap.size/\P<C/\A<C/\H<C/\X<C
theorem OpS.grown {B:Nat} {w:World} {r0 r:aF} {R:jP} {m:List UInt8} {P A H X C:Nat} {ls:List (List UInt8)} {wh:Bool} {ka k:Nat} {V:aV} {Y Z:World} (h:OpS B w r0 r R m P A H X C ls wh ka k V Y) (hC:w.heap.size<=C) {row:Option Nat} (hg:Y.grownBy Z row) (hr:∀q,row=some q->C<=q/\∃o:Obj,Y.heap[q]? =some o/\o.isCells=false):OpS B w r0 r R m P A H X C ls wh ka k V Z:=by
 have hr':∀r,row=some r->∃o:Obj,Y.heap[r]? =some o/\o.isCells=false:=fun r e=>(hr r e).2;exact ⟨h.vl.grown h.maps hg hr,(oK h.ptr hg hr').trans h.ptr,(oK h.at' hg hr').trans h.at',(oK h.wh' hg hr').trans h.wh',h.eqs,h.maps,h.new,h.newR,h.sep,h.len,h.scan,
   h.turn.trans (G:=fun x=>row=some x) ⟨hg.os,hg.tape,hg.output,hg.size,fun k hk hF=>hg.block k hk fun e=>hF e.symm⟩ (fun k e=> .inr (by have:=(hr k e).1;omega)),At h.big.1 hg.size,h.big.2⟩
theorem OpS.own (B:Nat) (w:World) (r0 r:aF) (R:jP) (m:List UInt8) (P A H X C:Nat) (ls:List (List UInt8)) (wh:Bool) (hC:w.heap.size<=C) {α:Type} (f:α->Nat):OwnFrom C (fun (s:α) W=>∃V,OpS B w r0 r R m P A H X C ls wh (f s) (f s) V W):=
 fun s Y Z row hs hg hr=>by
  obtain ⟨V,h⟩:=hs;exact ⟨V,h.grown hC hg hr⟩
section
variable {B:Nat} {w:World} {r0 r:aF} {R:jP} {m:List UInt8} {P A H X C:Nat} {ls:List (List UInt8)} {wh:Bool} {ka k:Nat} {V V':aV} {W W':World}
theorem OpS.only (h:OpS B w r0 r R m P A H X C ls wh ka k V W) (hs:ij B r.d W V W' V') (hm:V'.mg=V.mg/\V'.mb=V.mb) {k':Nat} (hl:V'.l.length=k') (hsc:Hid (fk m [] ls=fk m V'.l (ls.drop k'))) (hw:w.heap.size<=W.heap.size):OpS B w r0 r R m P A H X C ls wh ka k' V' W':=by
 have hst:=hs.step h.vl;have hP:∀y,y=P\/y=A\/y=H\/y=X->y<W.heap.size->W'.heap[y]? =W.heap[y]? :=fun y hy hlt=>hst.turn.block y hlt fun hF=>by
  have:=h.sep y hF;rcases hy with rfl|rfl|rfl|rfl
  .exact this.1 rfl
  .exact this.2.1 rfl
  .exact this.2.2.1 rfl
  .exact this.2.2.2 rfl
 refine ⟨hst.at',?_,?_,?_,⟨hs.R.trans h.eqs.1,hs.m.trans h.eqs.2.1,hs.down.trans h.eqs.2.2⟩,by rw [hm.1,hm.2];exact h.maps,fun x hx=> ?_,fun x hx=> ?_,fun x hx=> ?_,hl,hsc,h.turn.trans hst.turn h.new,At h.big.1 hs.turn.size,h.big.2⟩
 .rw [hs.v];exact (hP P (.inl rfl) h.ptr.lt).trans h.ptr
 .exact (hP A (.inr (.inl rfl)) h.at'.lt).trans h.at'
 .exact (hP H (.inr (.inr (.inl rfl))) h.wh'.lt).trans h.wh'
 .rcases hst.foot' x hx with h1|h1
  .exact h.new x h1
  .exact .inr oA
 .rcases hs.foot' x hx with h1|h1
  .exact h.newR x h1
  .omega
 .rcases hst.foot' x hx with h1|h1
  .exact h.sep x h1
  .have:=h.big;refine ⟨?_,?_,?_,?_⟩<;>omega
theorem OpS.old (h:OpS B w r0 r R m P A H X C ls wh ka k V W) (hb:Below W.heap.size W W'):OpS B w r0 r R m P A H X C ls wh ka k V W':=
 ⟨h.vl.old hb,h.ptr.old hb,h.at'.old hb,h.wh'.old hb,h.eqs,h.maps,h.new,h.newR,h.sep,h.len,h.scan,h.turn.trans (aJ.of_below (F:=eM r0) hb) fun _ h=> .inl h,At h.big.1 hb.size,h.big.2⟩
theorem OpS.setAt (h:OpS B w r0 r R m P A H X C ls wh ka k V W) (hA:w.heap.size<=A) (hne:A≠P/\A≠H) {v:Int} {k':Nat} (hv:v=((asQ (ls.take k')).length:Int)):OpS B w r0 r R m P A H X C ls wh k' k V (W.setCell ⟨A,0,none⟩ (.int .i64 v)):=by
 subst hv;have ho:∀x,x≠A->(W.setCell ⟨A,0,none⟩ (.int .i64 ((asQ (ls.take k')).length:Int))).heap[x]? =W.heap[x]? :=fun x hx=>VU W ⟨A,0,none⟩ x _ hx;exact ⟨h.vl.keep fun x hx=>ho x (h.sep x hx).2.1,(ho P (fun e=>hne.1 e.symm)).trans h.ptr,h.at'.set 0 _,(ho H (fun e=>hne.2 e.symm)).trans h.wh',h.eqs,h.maps,h.new,h.newR,h.sep,h.len,h.scan,h.turn.setCell (x:=⟨A,0,none⟩) (.inr hA) _,by simpa [World.setCell] using h.big⟩
theorem OpS.setWh (h:OpS B w r0 r R m P A H X C ls wh ka k V W) (hH:w.heap.size<=H) (hne:H≠P/\H≠A) (b:Bool):OpS B w r0 r R m P A H X C ls b ka k V (W.setCell ⟨H,0,none⟩ (.bool b)):=by
 have ho:∀x,x≠H->(W.setCell ⟨H,0,none⟩ (.bool b)).heap[x]? =W.heap[x]? :=fun x hx=>VU W ⟨H,0,none⟩ x _ hx;exact ⟨h.vl.keep fun x hx=>ho x (h.sep x hx).2.2.1,(ho P (fun e=>hne.1 e.symm)).trans h.ptr,(ho A (fun e=>hne.2 e.symm)).trans h.at',h.wh'.set 0 _,h.eqs,h.maps,h.new,h.newR,h.sep,h.len,h.scan,h.turn.setCell (x:=⟨H,0,none⟩) (.inr hH) _,by simpa [World.setCell] using h.big⟩
end
theorem DJ {V:aV} {bl:List (Nat×Nat)} {y:Nat} (h:dW {V with bl:=bl} y):dW V y\/∃z∈bl,y=z.2:=by
 rcases h with hx|hx|hx|hx|hx|hx|hx|hx
 .exact .inl (.inl hx)
 .exact .inl (.inr (.inl hx))
 .exact .inl (.inr (.inr (.inl hx)))
 .exact .inl (.inr (.inr (.inr (.inl hx))))
 .exact .inl (.inr (.inr (.inr (.inr (.inl hx)))))
 .exact .inl (.inr (.inr (.inr (.inr (.inr (.inl hx))))))
 .exact .inl (.inr (.inr (.inr (.inr (.inr (.inr (.inl hx)))))))
 .exact .inr hx
section
variable {B:Nat} {w:World} {r0 r:aF} {R:jP} {m:List UInt8} {P A H X C:Nat} {ls:List (List UInt8)} {wh:Bool} {ka k:Nat} {V V':aV} {W W':World}
theorem OpS.keeps (h:OpS B w r0 r R m P A H X C ls wh ka k V W) (ht:aJ (dW V) W W'):KeepsFrom C W W':=
 ⟨ht.size,fun q o hq h1 h2=>by
  have hlt:q<W.heap.size:=(VK.1 h1).1;refine (ht.block q hlt fun hv=> ?_).trans h1;rcases lz h.vl.vault hv with (rfl|rfl)|⟨cs,t,hb⟩
  .have:=h.maps.2.1;omega
  .have:=h.maps.2.2;omega
  .have hb':W.heap[q]? =_:=hb;rw [h1] at hb';cases hb';cases h2⟩
theorem OpS.kpAt (h:OpS B w r0 r R m P A H X C ls wh ka k V W) (ht:aJ (dW V) W W'):aq (fun y=>dJ R y\/y=X) W W':=
 ⟨ht.size,fun y hy=>by
  rcases hy with hy|rfl
  .have hy':dJ V.R y:=(by rw [h.eqs.1];exact hy);exact ht.block y (h.vl.vault.log.lt hy').2 fun hv=>h.vl.vault.sepl y hv hy'
  .exact ht.block y (by have:=h.big;omega) fun hv=>(h.sep y (.inr (.inr hv))).2.2.2 rfl⟩
theorem OpS.kpOld (h:OpS B w r0 r R m P A H X C ls wh ka k V W) (hb:Below W.heap.size W W'):aq (fun y=>dJ R y\/y=X) W W':=aq.below hb fun y hy=>by
 rcases hy with hy|rfl
 .exact (h.vl.vault.log.lt (by rw [h.eqs.1];exact hy)).2
 .have:=h.big;omega
theorem wJ (hb:Below W.heap.size W W'):KeepsFrom C W W':=⟨hb.size,fun q o _ h1 _=>(hb.block q (VK.1 h1).1).trans h1⟩
theorem OpS.failed (h:OpS B w r0 r R m P A H X C ls wh ka k V W) (hk:k<ls.length) (hu:(br V.m V.l ls[k]).2=false):Hid (k<ls.length/\(fk m [] ls).length=k):=by
 have hs:=h.scan.out;rw [XJ hk,fk,<-h.eqs.2.1,hu] at hs;exact Hd ⟨hk,by rw [<-h.eqs.2.1,hs];exact h.len⟩
theorem OpS.next (h:OpS B w r0 r R m P A H X C ls wh ka k V W) (hk:k<ls.length) {x:ao} (hx:(br V.m V.l ls[k]).1=x) (hu:(br V.m V.l ls[k]).2=true):Hid (fk m [] ls=fk m (V.l++ [x]) (ls.drop (k+1))):=by
 have hs:=h.scan.out;rw [XJ hk,fk,<-h.eqs.2.1,hu,hx,if_pos rfl] at hs;rw [<-h.eqs.2.1];exact Hd hs
end
def ix (v:Nat) (ma:Option Addr) (mc:Nat) (m:List UInt8) (R:jP) (mg mb:Nat):aV:=⟨v,ma,mc,m,R,none,0,[],mg,fun _=>0,fun _=>0,mb,[],false⟩
theorem BR {w:World} {B B':Nat} {r:aF} {R:jP} (h:DL w B r R) (hB:B<=w.heap.size) {ka:Option Addr} {mn kc:Nat} {m:List UInt8} (hm:m.length=mn) (hz:mn<=1000000) (ho:Own w B' 5 1 ka mn kc (m.map bv)) (hBB:B<=B') (hka:∀ad,ka=some ad->¬(eM r ad.block\/dJ R ad.block)):
  VL (((w.alloc (.map #[] 0)).alloc (.map #[] 0)).alloc (.cells #[.slice ka mn kc,.pointer (some ⟨R.l,0,none⟩),.slice none 0 0,.map (some w.heap.size),.map (some (w.heap.size+1)),.bool false] 93)) B r (ix (w.heap.size+1+1) ka kc m R w.heap.size (w.heap.size+1)):=by
 subst hm;have hb:Below w.heap.size w (((w.alloc (.map #[] 0)).alloc (.map #[] 0)).alloc (.cells #[.slice ka m.length kc,.pointer (some ⟨R.l,0,none⟩),.slice none 0 0,.map (some w.heap.size),.map (some (w.heap.size+1)),.bool false] 93)):=(((AT _ _).alloc (Lt _) _).alloc skA _).alloc soA _;have hdl:=h.old hb;have hvr:∀x,dW (ix (w.heap.size+1+1) ka kc m R w.heap.size (w.heap.size+1)) x->w.heap.size<=x\/atB ka x:=by
  intro x hx;rcases hx with rfl|hx|⟨ad,ha,rfl⟩|⟨y,hy,hi⟩|rfl|rfl|⟨g,hg,rfl⟩|⟨y,hy,rfl⟩
  .exact .inl (by simp [ix];omega)
  .exact .inr hx
  .cases ha
  .cases hy
  .exact .inl (by simp [ix])
  .exact .inl (by simp [ix])
  .exact absurd hg (Xg _)
  .cases hy
 have hap:∀x,dW (ix (w.heap.size+1+1) ka kc m R w.heap.size (w.heap.size+1)) x->¬(eM r x\/dJ R x):=fun x hx hf=>by
  rcases hvr x hx with q|⟨ad,ha,rfl⟩
  .have:=(h.lt hf).2;omega
  .exact hka ad ha hf
 refine ⟨hdl.disk,⟨⟨by simp [ix];omega,hB,by simp [ix];omega,by simp [ix]⟩,?_,(ho.lower hBB).old hb,hz,hdl.log,Own.nil _ _ _ _,(fun x hx=>by cases hx),?_,(fun g hg=>absurd hg (Xg _)),(fun g g' hg=>absurd hg (Xg _)),(fun g hg=>absurd hg (Xg _)),?_,(fun y hy=>by cases hy),fun x hx hl=>hap x hx (.inr hl),qU.nil,Vo _⟩,fun x hx hf=> ?_⟩
 .have e:((w.alloc (.map #[] 0)).alloc (.map #[] 0)).heap.size=w.heap.size+1+1:=skA;have:=Blk.new ((w.alloc (.map #[] 0)).alloc (.map #[] 0)) #[.slice ka m.length kc,.pointer (some ⟨R.l,0,none⟩),.slice none 0 0,.map (some w.heap.size),.map (some (w.heap.size+1)),.bool false] 93;rw [e] at this;exact this
 .refine (iP.made w prog 3 Rs).keep ?_;exact (Vi _ _ _ soA).trans (Vi _ _ _ skA)
 .have h2:=iP.made (w.alloc (.map #[] 0)) prog 3 Rb;have e:(w.alloc (.map #[] 0)).heap.size=w.heap.size+1:=skA;rw [e] at h2;exact h2.keep (Vi _ _ _ skA)
 .rcases hx with hx|hx
  .exact h.apart x hx hf
  .exact hap x hx (.inl hf)
theorem vm {w:World} {B:Nat} {r:aF} {V:aV} (h:VL w B r V) {x:Nat} (hx:jU r V x):(∃es clock,w.heap[x]? =some (.map es clock))\/∃cs t,Blk w x cs t:=by
 rcases hx with hx|hx|hx
 .rcases no h.disk hx with rfl|hc
  .exact .inl h.disk.map.obj
  .exact .inr hc
 .exact .inr (pW h.vault.log hx)
 .rcases lz h.vault hx with (rfl|rfl)|hc
  .exact .inl h.vault.gm.obj
  .exact .inl h.vault.bm.obj
  .exact .inr hc
structure OpT (B:Nat) (w:World) (r0 r:aF) (P A D at_:Nat) (V:aV) (W:World):Prop where
 vl:VL W B r V
 ptr:Blk W P #[.pointer (some ⟨V.v,0,none⟩)] 28
 at':Blk W A #[.int .i64 (at_:Int)] 3
 dfr:W.heap[D]? =some (.deferred (some []))
 new:∀x,jU r V x->eM r0 x\/w.heap.size<=x
 newR:∀x,dW V x->w.heap.size<=x
 sep:∀x,jU r V x->x≠P/\x≠A/\x≠D
 turn:aJ (eM r0) w W
section
variable {B:Nat} {w:World} {r0 r r':aF} {P A D at_:Nat} {V V':aV} {W W':World}
theorem OpS.toT {R:jP} {m:List UInt8} {H X C:Nat} {ls:List (List UInt8)} {wh:Bool} {ka k:Nat} (h:OpS B w r0 r R m P A H X C ls wh ka k V W) (hd:W.heap[D]? =some (.deferred (some []))) (ha:(asQ (ls.take ka)).length=at_):OpT B w r0 r P A D at_ V W:=by
 subst ha;refine ⟨h.vl,h.ptr,h.at',hd,h.new,h.newR,fun x hx=>⟨(h.sep x hx).1,(h.sep x hx).2.1,fun e=> ?_⟩,h.turn⟩;subst e;rcases vm h.vl hx with ⟨es,clock,hm⟩|⟨cs,t,hb⟩
 .rw [hd] at hm;cases hm
 .have hb':W.heap[x]? =_:=hb;rw [hd] at hb';cases hb'
theorem OpT.old (h:OpT B w r0 r P A D at_ V W) (hb:Below W.heap.size W W'):OpT B w r0 r P A D at_ V W':=
 ⟨h.vl.old hb,h.ptr.old hb,h.at'.old hb,(hb.block D (VK.1 h.dfr).1).trans h.dfr,h.new,h.newR,h.sep,h.turn.trans (aJ.of_below (F:=eM r0) hb) fun _ h=> .inl h⟩
theorem OpT.step (h:OpT B w r0 r P A D at_ V W) (hs:ib B W r V W' r' V') (hR:∀x,dW V' x->dW V x\/W.heap.size<=x):OpT B w r0 r' P A D at_ V' W':=by
 have hw:=h.turn.size;have hP:∀y,y=P\/y=A\/y=D->y<W.heap.size->W'.heap[y]? =W.heap[y]? :=fun y hy hlt=>hs.turn.block y hlt fun hF=>by
  have:=h.sep y hF;rcases hy with rfl|rfl|rfl
  .exact this.1 rfl
  .exact this.2.1 rfl
  .exact this.2.2 rfl
 have hDl:D<W.heap.size:=(VK.1 h.dfr).1;refine ⟨hs.at',?_,(hP A (.inr (.inl rfl)) h.at'.lt).trans h.at',(hP D (.inr (.inr rfl)) hDl).trans h.dfr,fun x hx=> ?_,fun x hx=> ?_,fun x hx=> ?_,h.turn.trans hs.turn h.new⟩
 .rw [hs.v];exact (hP P (.inl rfl) h.ptr.lt).trans h.ptr
 .rcases hs.foot' x hx with q|q
  .exact h.new x q
  .exact .inr oA
 .rcases hR x hx with q|q
  .exact h.newR x q
  .omega
 .rcases hs.foot' x hx with q|q
  .exact h.sep x q
  .have:=h.ptr.lt;have:=h.at'.lt;refine ⟨?_,?_,?_⟩<;>omega
theorem VL.defer (h:VL W B r V) (hd:W.heap[D]? =some (.deferred (some []))) (o:Obj):VL (W.putObj D o) B r V:=h.keep fun x hx=>World.putObj_heap_other fun e=>by
 subst e;rcases vm h hx with ⟨es,clock,hm⟩|⟨cs,t,hb⟩
 .rw [hd] at hm;cases hm
 .have hb':W.heap[x]? =_:=hb;rw [hd] at hb';cases hb'
theorem aG.defer (h:aG W B r) (hd:W.heap[D]? =some (.deferred (some []))) (o:Obj):aG (W.putObj D o) B r:=h.keep fun x hx=>World.putObj_heap_other fun e=>by
 subst e;rcases no h hx with rfl|⟨cs,t,hb⟩
 .obtain ⟨es,clock,hm⟩:=h.map.obj;rw [hd] at hm;cases hm
 .have hb':W.heap[x]? =_:=hb;rw [hd] at hb';cases hb'
theorem aJ.defer {F:Nat->Prop} (h:aJ F w W) (hD:w.heap.size<=D) (o:Obj):aJ F w (W.putObj D o):=by
 have hg:=grownBy_putObj' W D o;exact ⟨hg.os.trans h.os,hg.tape.trans h.tape,hg.output.trans h.output,At h.size hg.size,fun k hk hF=>(World.putObj_heap_other oA).trans (h.block k hk hF)⟩
end
theorem OC {B:Nat} {w w':World} {r r':aF} {V:aV} {R':jP} (h:VL w B r V) (hs:ct B w r w' r') (hd:DL w' B r' R') (hf:∀x,dJ R' x->w.heap.size<=x) (hc:V.ds.length<=R'.ls.length):
  ib B w r V (w'.setCell ⟨V.v,1,none⟩ (.pointer (some ⟨R'.l,0,none⟩))) r' {V with R:=R'}:=by
 have hst:=ct.vault hs h;have ha:=hst.at'.vault;have ho:∀x,x≠V.v->(w'.setCell ⟨V.v,1,none⟩ (.pointer (some ⟨R'.l,0,none⟩))).heap[x]? =w'.heap[x]? :=fun x hx=>VU w' ⟨V.v,1,none⟩ x _ hx;have hvr:∀x,dW {V with R:=R'} x↔dW V x:=fun x=>Iff.rfl;have hvl:∀x,dW V x->x<w.heap.size:=fun x hx=>(h.vault.ltR hx).2;have hvv:dW V V.v:= .inl rfl;have hlv:∀x,dJ R' x->x≠V.v:=fun x hx e=>(by have:=hf x hx;have:=hvl _ hvv;omega);have hfv:∀x,eM r' x->x≠V.v:=fun x hx e=>hst.at'.apart V.v (.inr hvv) (e▸hx);have hcell:∀x cs t,Blk w' x cs t->t≠93->x≠V.v:=fun x cs t hb ht=>hb.ne ha.blk ht;have hat:aR (w'.setCell ⟨V.v,1,none⟩ (.pointer (some ⟨R'.l,0,none⟩))) B r'.d {V with R:=R'}:=by
  refine ⟨ha.ge,?_,ha.master.keepAt fun x hx=> ?_,ha.mz,hd.log.keep fun x hx=>ho x (hlv x hx),ha.deeds.keepAt fun x hx=> ?_,fun x hx=>(ha.each x hx).keepB fun y hy=> ?_,ha.gm.keep (ho _ fun e=>ha.blk.ne_gmap ha.gm e.symm),
   fun g hg=>(ha.rows g hg).keepAt fun x hx=> ?_,ha.sepf,ha.sepi,ha.bm.keep (ho _ fun e=>ha.blk.ne_gmap ha.bm e.symm),fun y hy=>⟨(ha.boxes y hy).1,(ha.boxes y hy).2.1,(ho _ (hcell _ _ _ (ha.boxes y hy).2.2 dcA)).trans (ha.boxes y hy).2.2⟩,fun x hx hl=> ?_,ha.good,hc⟩
  .have:=ha.blk.set 1 (.pointer (some ⟨R'.l,0,none⟩));simpa [aQ] using this
  .obtain ⟨_,_,cur,hb⟩:=ha.master.block_lt hx;exact ho _ (hcell _ _ _ hb dcA)
  .obtain ⟨_,_,cur,hb⟩:=ha.deeds.block_lt hx;exact ho _ (hcell _ _ _ hb dcA)
  .obtain ⟨_,_,cur,t,hb,ht⟩:=(ha.each x hx).innerLt hy;exact ho _ (hcell _ _ _ hb (by rcases ht with rfl|rfl<;>decide))
  .obtain ⟨_,_,cur,hb⟩:=(ha.rows g hg).block_lt hx;exact ho _ (hcell _ _ _ hb dcA)
  .have:=hvl x hx;have:=hf x hl;omega
 refine ⟨hst.turn.setCell (x:=⟨V.v,1,none⟩) (.inl (.inr (.inr hvv))) _,⟨hd.disk.keep fun x hx=>ho x (hfv x hx),hat,fun x hx hfx=> ?_⟩,fun x hx=> ?_,hst.d,rfl,rfl⟩
 .rcases hx with hx|hx
  .exact hd.apart x hx hfx
  .exact hst.at'.apart x (.inr hx) hfx
 .rcases hx with hx|hx|hx
  .exact hst.foot' x (.inl hx)
  .exact .inr (hf x hx)
  .exact .inl (.inr (.inr hx))
end
section
open Go.RowKit Go.Maps
theorem yU (n:Int) (w:World):Calls prog 56 #[.int .i64 n] w fun e w'=>e= .returned (.slice (some ⟨w.heap.size,0,none⟩) 8 8)/\Own w' w.heap.size 5 1 (some ⟨w.heap.size,0,none⟩) 8 8 ((be8 n).map bv)/\Below w.heap.size w w':=by
 have hms:=fun W=>Lc W;obtain ⟨H,hH⟩:=Le w.heap.size;rw [<-hH];have hB0:=Blk.new w (vA 8 fun _=> .int .u8 0) 5;go_enter func56,ntmps56;go_upto_region 2 with fail;clear hms;rw [<-hH] at hB0⊢;refine af (fun W0=>Ve1 w H n 8 (.int .i64 0) W0) ⟨0,oA,rfl,hB0.ofV fun j _=>by rw [if_neg oA],by rw [hH];exact cL⟩ ?_;have HH:=Hd hH;have hHw:w.heap.size<=H:=VR hH.symm;clear hB0 hH;intro w1 hst;go_wp2_with fail;go_loopg [8] 8 (fun g i wr=>Ve1 w H n g i wr)
 case atStart=>exact hst
 case round=>
  clear hst;obtain ⟨t,hf,rfl,hB,hb⟩:=hrel;have HF:=Hd hf;clear hf;by_cases ht:t<8
  .have HE:=Hd fun t p=>Di n t p;have f0:=hB.free;have h8:t=0\/t=1\/t=2\/t=3\/t=4\/t=5\/t=6\/t=7:=oA;rcases h8 with rfl|rfl|rfl|rfl|rfl|rfl|rfl|rfl
   all_goals
    have c0:=hB.atV oA rfl
    go_wp2_with fail
    clear c0 f0
    go_roundg (gk-1)
    case rel=>
     have hf:=HF.out
     refine ⟨_,oA,gnA,(hB.setV oA _).ofV fun j _=>yG n _ j _ ?_,hb.setCell (by show H<=H;omega) _⟩
     first
      |exact HE.out _ _ rfl
      |(have E:=HE.out 7 1 rfl;rw [Int.ediv_one] at E;exact E)
    case measure=>have hf:=HF.out;omega
  .obtain rfl:t=8:=(by have:=HF.out;omega);go_wp2_with fail;go_ret;have hTT:=hB.ofV (g:=fun j=>bv (Fz n j)) fun j hj=>if_pos hj;refine ⟨rfl,⟨by rw [lmA,au],.inr ⟨H,8,_,rfl,Lt _,hTT,Lt _,mxA,ax _ _,?_⟩⟩,hb⟩;simp only [vA,vL,be8,Fz,WB];rw [Vj skA];rfl
theorem Bn {B:Nat} {w:World} {r:aF} {V:aV} (h:VL w B r V):ib B w r V (w.setCell ⟨V.v,5,none⟩ (.bool true)) r {V with down:=true}:=by
 have ha:=h.vault;have ho:∀x,x≠V.v->(w.setCell ⟨V.v,5,none⟩ (.bool true)).heap[x]? =w.heap[x]? :=fun x hx=>VU w ⟨V.v,5,none⟩ x _ hx;have hvv:dW V V.v:= .inl rfl;have hlv:∀x,dJ V.R x->x≠V.v:=fun x hx e=>ha.sepl V.v hvv (e▸hx);have hfv:∀x,eM r x->x≠V.v:=fun x hx e=>h.apart V.v (.inr hvv) (e▸hx);have hcell:∀x cs t,Blk w x cs t->t≠93->x≠V.v:=fun x cs t hb ht=>hb.ne ha.blk ht;have hat:aR (w.setCell ⟨V.v,5,none⟩ (.bool true)) B r.d {V with down:=true}:=by
  refine ⟨ha.ge,?_,ha.master.keepAt fun x hx=> ?_,ha.mz,ha.log.keep fun x hx=>ho x (hlv x hx),ha.deeds.keepAt fun x hx=> ?_,fun x hx=>(ha.each x hx).keepB fun y hy=> ?_,ha.gm.keep (ho _ fun e=>ha.blk.ne_gmap ha.gm e.symm),
   fun g hg=>(ha.rows g hg).keepAt fun x hx=> ?_,ha.sepf,ha.sepi,ha.bm.keep (ho _ fun e=>ha.blk.ne_gmap ha.bm e.symm),fun y hy=>⟨(ha.boxes y hy).1,(ha.boxes y hy).2.1,(ho _ (hcell _ _ _ (ha.boxes y hy).2.2 dcA)).trans (ha.boxes y hy).2.2⟩,ha.sepl,ha.good,ha.cnt⟩
  .have:=ha.blk.set 5 (.bool true);simpa [aQ] using this
  .obtain ⟨_,_,cur,hb⟩:=ha.master.block_lt hx;exact ho _ (hcell _ _ _ hb dcA)
  .obtain ⟨_,_,cur,hb⟩:=ha.deeds.block_lt hx;exact ho _ (hcell _ _ _ hb dcA)
  .obtain ⟨_,_,cur,t,hb,ht⟩:=(ha.each x hx).innerLt hy;exact ho _ (hcell _ _ _ hb (by rcases ht with rfl|rfl<;>decide))
  .obtain ⟨_,_,cur,hb⟩:=(ha.rows g hg).block_lt hx;exact ho _ (hcell _ _ _ hb dcA)
 exact ⟨(aJ.refl _ _).setCell (x:=⟨V.v,5,none⟩) (.inl (.inr (.inr hvv))) _,⟨h.disk.keep fun x hx=>ho x (hfv x hx),hat,h.apart⟩,fun x hx=> .inl hx,rfl,rfl,rfl⟩
def xT (p:aM) (V:aV) (x:ao):Int:=jT p V.R (iG V.m V.l x)
def Eu (p:aM) (V:aV) (x:ao):aM×Int:=eL (nj p V.R (iG V.m V.l x)) V.R.nm
def jF (V:aV) (x:ao):Bool:=il x&&bp V.l x
def qM (p:aM) (V:aV) (x:ao):Int:=if V.down=true then 5 else if jF V x=false then 2 else if 65504<(bZ x).length then 3 else if xT p V x≠0 then xT p V x else (Eu p V x).2
def xS (p:aM) (V:aV) (x:ao):aM:=if V.down=true then p else if jF V x=false then p else if 65504<(bZ x).length then p else if xT p V x≠0 then nj p V.R (iG V.m V.l x) else (Eu p V x).1
def mo (p:aM) (V:aV) (x:ao):Bool:=if V.down=true then true else if jF V x=false then false else if 65504<(bZ x).length then false else if xT p V x≠0 then decide (xT p V x≠3/\xT p V x≠100) else decide ((Eu p V x).2≠0)
def mm (p:aM) (V:aV) (x:ao):List (List UInt8):=if V.down=true then V.R.ls else if jF V x=false then V.R.ls else if 65504<(bZ x).length then V.R.ls else if xT p V x≠0 then V.R.ls else V.R.ls++ [iG V.m V.l x]
def Me (B:Nat) (w:World) (r:aF) (V:aV) (x:ao) (e:Ending) (w':World):Prop:=
 ∃(r':aF) (V':aV),e= .returned (.int .i64 (qM r.p V x))/\ib B w r V w' r' V'/\r'.p=xS r.p V x/\V'.l=(if qM r.p V x=0 then V.l++ [x] else V.l)/\V'.R.ls=mm r.p V x/\V'.R.nm=V.R.nm/\V'.down=mo r.p V x
theorem sf (w:World) (B:Nat) (r:aF) (V:aV) (h:VL w B r V) (hB:B<=w.heap.size) (x:ao) (hx:aW) (hd:∀W,aJ (jU r V) w W->dC W x hx) (hz:(dq x.act).length<100000000000):
  Calls prog 13 #[.pointer (some ⟨V.v,0,none⟩),dR x hx] w (Me B w r V x):=by
 obtain ⟨S,hS⟩:=Le (Me B w r V x);rw [<-hS];have HS:=Hd hS;clear hS;have hOk:=Hd (rfl:jF V x=(il x&&bp V.l x));rw [aH];go_enter func13,ntmps13;go_upto_region 1 with (fail);obtain ⟨X,hX⟩:=Le w.heap.size;rw [<-hX];refine af (fun W=>Blk W X (ak x hx).toArray 40/\Below w.heap.size w W) ⟨by rw [hX];exact Blk.new _ _ _,cL⟩ ?_;rintro W1 ⟨bX,hb1⟩;have hXw:w.heap.size<=X:=VR hX.symm;clear hX;have h1:=h.old hb1;have cd:W1.cell? ⟨V.v,5,none⟩=some (.bool V.down):=h1.vault.blk.cell rfl;cases hdn:V.down with
 |true=>
  rw [hdn] at cd;go_wp2_with fail;rw [HS.out];have e1:qM r.p V x=5:=(by unfold qM;rw [if_pos hdn]);exact ⟨r,V,by first|(rw [e1];done)|(rw [e1];rfl),ib.old h hb1,by unfold xS;rw [if_pos hdn],by rw [e1];rfl,by unfold mm;rw [if_pos hdn],rfl,by unfold mo;rw [if_pos hdn];exact hdn⟩
 |false=>
  rw [hdn] at cd;have cb:=yV x hx W1 (hd W1 (aJ.of_below hb1)) hz;rw [aH] at cb;have HDN:=Hd hdn;go_wp2_with (refine am rfl 40 aZ (.tmp 3) rfl rfl bX rfl ?_);refine cb.mono ?_;clear cb cd;intro e W2 hvb;unfold nw at hvb;cases hmay:il x with
  |false=>
   rw [hmay,if_neg skA] at hvb;obtain ⟨rfl,hb2⟩:=hvb;go_wp2_with fail;rw [HS.out];have e0:jF V x=false:=(by unfold jF;rw [hmay];rfl);have nd:¬V.down=true:=(by rw [hdn];simp);have e1:qM r.p V x=2:=(by unfold qM;rw [if_neg nd,if_pos e0]);exact ⟨r,V,by first|(rw [e1];done)|(rw [e1];rfl),ib.old h (ae hb1 hb2),by unfold xS;rw [if_neg nd,if_pos e0],by rw [e1];rfl,by unfold mm;rw [if_neg nd,if_pos e0],rfl,by unfold mo;rw [if_neg nd,if_pos e0];exact hdn⟩
  |true=>
   rw [hmay,if_pos rfl] at hvb;obtain ⟨ba,bc,rfl,hbo,hb2⟩:=hvb;have hb02:=ae hb1 hb2;have h2:=h.old hb02;have bX2:=bX.old hb2;have hb2B:Below B w W2:=hb02.mono hB;go_wp2_with fail;refine (nB W2 B r.d V h2.vault X x hx bX2).mono ?_;rintro e W3 ⟨rfl,hb3⟩;have hb03:=ae hb02 hb3;have h3:=h.old hb03;have bX3:=bX2.old hb3;have hbo3:=hbo.old hb3;have hb3B:Below B w W3:=hb03.mono hB;clear h2 bX2 hb2B;cases hfo:bp V.l x with
   |false=>
    go_wp2_with fail;rw [HS.out];have e0:jF V x=false:=(by unfold jF;rw [hmay,hfo];rfl);have nd:¬V.down=true:=(by rw [hdn];simp);have e1:qM r.p V x=2:=(by unfold qM;rw [if_neg nd,if_pos e0]);exact ⟨r,V,by first|(rw [e1];done)|(rw [e1];rfl),ib.old h hb03,by unfold xS;rw [if_neg nd,if_pos e0],by rw [e1];rfl,by unfold mm;rw [if_neg nd,if_pos e0],rfl,by unfold mo;rw [if_neg nd,if_pos e0];exact hdn⟩
   |true=>
    obtain ⟨g,hg⟩:∃g:Nat,x.game=(g:Int):=⟨x.game.toNat,by have:=(eU hfo).1;omega⟩;have hsm:=h3.vault.small;have hg4:g<=4096:=by
     have q1:=(eU hfo).2.2;by_cases hk:x.kind=1
     .have:=q1.2 hk;omega
     .have:=q1.1 hk;omega
    obtain ⟨sa,sc,hlook⟩:=h3.vault.rowLook hg4;obtain ⟨n,hn⟩:=Le ((ofG V.l (g:Int)).length);rw [<-hn] at hlook;have hn4:n<=4096:=(by rw [hn,<-gU];exact hsm.2.2 _);obtain ⟨bn,hbn⟩:=Le ((bZ x).length);rw [<-hbn] at hbo3;rw [<-hbn];have HN:=Hd hn;have HG:=Hd hg;have HBN:=Hd hbn;have HM:=Hd hmay;have HF:=Hd hfo;clear hn hbn hmay hfo hdn hbo;go_upto_region 8 with fail;have nvb:V.v≠V.mb:=h3.vault.blk.ne_gmap h3.vault.bm;have nXb:X≠V.mb:=bX3.ne_gmap h3.vault.bm;have L0:∀W,But V.mb W3.drew W->∀i,W.cell? ⟨V.v,i,none⟩=(aQ V)[i]? :=fun W hW=>(h3.vault.blk.drew.but hW nvb).rule;have L1:∀W,But V.mb W3.drew W->W.cell? ⟨X,1,none⟩=some (.int .i64 (g:Int)):=fun W hW=>(by rw [<-HG.out];exact (bX3.drew.but hW nXb).cell rfl);have L2:∀W,But V.mb W3.drew W->(Instr.lookup 90 (.map (some V.mg)) (.int .i64 (g:Int)) false).run prog W= .ok (.slice sa n sc) W:=fun W hW=>hlook W (hW.2 V.mg h3.vault.gm.lt h3.vault.ge.2.2.2);have hu:IntKind.u64.wrap (n:Int)=(n:Int):=by
     simp only [IntKind.wrap,IntKind.bits,IntKind.signed];simp;omega
    unfold aQ at L0;clear hlook;refine cj V.mb (.step 0 (.step 1 (.step 2 (.step 4 (.step 5 (.step 6 (.step 7 (.step 8 (.step 9 (.step 10 (.step 11 (.step 12 (.step 13 (.step 3 (.step 14 (.step 15 (.step 16 (.step 17 (.step 18 (.step 19 .done)))))))))))))))))))) krA krA cdA ?_
    repeat (first|refine tsA ?_|refine tqA ?_)
    refine an rfl rfl rfA (fun K hK=> ?_);go_wp2_with fail;have h3d:aR W3.drew B r.d V:=h3.vault.old (AT _ _).drew;refine (xB W3.drew B r.d V h3d (by have:=hb03.size;simp;omega) g hg4).mono ?_;rintro e W4 ⟨bb,bl,rfl,hbx,hv4,ht4⟩;go_wp2_with fail;refine hK _ _ ⟨ht4.size,fun x hx hne=>ht4.block x hx hne⟩ ?_;clear hK K L0 L1 L2;have h3v:VL W3.drew B r V:=h3.old (AT _ _).drew;have hs4:=hv4.step h3v;have hs04:ib B w r V W4 r {V with bl:=bl}:=(ib.old h hb03.drew).trans hs4;have bX4:Blk W4 X (ak x hx).toArray 40:=(ht4.block X bX3.lt nXb).trans bX3;have hb4:ah W4 ba (bZ x):=ah.notMap (w:=W3.drew) hbo3.row h3d.bm ht4;have hB4:Below B w W4:=hs04.below h hB;have hz4:=hs04.turn.size
    repeat (first|refine tsA ?_|refine tqA ?_)
    refine an rfl rfl rfA (fun K hK=> ?_);go_wp2_with fail;by_cases hlong:65504<bn
    .have cs:=Bo bb n ba bn bc W4 hlong (by have:=hbo3.le_max;exact this);refine cs.mono ?_;rintro e W5 ⟨rfl,rfl⟩;go_wp2_with fail;refine hK _ _ ⟨Lt _,fun _ _ _=>rfl⟩ ?_;clear hK K
     repeat (first|refine tsA ?_|refine tqA ?_)
     refine ap ?_;go_wp2_with fail;rw [HS.out];have e0:¬jF V x=false:=(by unfold jF;rw [HM.out,HF.out];simp);have nd:¬V.down=true:=(by rw [HDN.out];simp);have hl2:65504<(bZ x).length:=(by rw [<-HBN.out];exact hlong);have e1:qM r.p V x=3:=(by unfold qM;rw [if_neg nd,if_neg e0,if_pos hl2]);exact ⟨r,_,by first|(rw [e1];done)|(rw [e1];rfl),hs04,by unfold xS;rw [if_neg nd,if_neg e0,if_pos hl2],by rw [e1];rfl,by unfold mm;rw [if_neg nd,if_neg e0,if_pos hl2],rfl,by unfold mo;rw [if_neg nd,if_neg e0,if_pos hl2];exact HDN.out⟩
    .have cs:=DZ bb V.m g n ba bn bc (bZ x) W4 hbx hb4 HBN.out.symm oA (XD hg4 dcA) (XD hn4 dcA);refine cs.mono ?_;clear cs;rintro e W5 ⟨qa,qc,rfl,hqo,hb5⟩;go_wp2_with fail;refine hK _ _ ⟨hb5.size,fun x hx _=>hb5.block x hx⟩ ?_;clear hK K
     repeat (first|refine tsA ?_|refine tqA ?_)
     refine ap ?_;have hs05:ib B w r V W5 r {V with bl:=bl}:=hs04.trans (ib.old hs04.at' hb5);have bX5:=bX4.old hb5;have h5:=hs05.at';have hz5:=hs05.turn.size;obtain ⟨L,hL⟩:=Le (iG V.m V.l x);have hLs:L=be8 (g:Int)++gI V.m g n (bZ x):=by
      rw [hL];unfold iG;rw [HG.out,WM,HN.out]
     have HL:=Hd hL;have HLs:=Hd hLs;clear hL hLs hs4 hv4 hbx hb4 h3v h3d;have hbl5:(bZ x).length<=65504:=(by rw [<-HBN.out];omega);go_upto_region 11 with fail;have L0:∀W,aq (fun y=>y=V.v\/y=X) W5.drew W->∀i,W.cell? ⟨V.v,i,none⟩=(aQ V)[i]? :=fun W hW i=>(VJ (a:=⟨V.v,i,none⟩) (hW.2 V.v (.inl rfl))).trans (h5.vault.blk.rule i);have L1:∀W,aq (fun y=>y=V.v\/y=X) W5.drew W->W.cell? ⟨X,1,none⟩=some (.int .i64 (g:Int)):=fun W hW=>by
      rw [<-HG.out,VJ (a:=⟨X,1,none⟩) (hW.2 X (.inr rfl))];exact bX5.cell rfl
     unfold aQ at L0;have hvl5:=h5.vault.blk.lt;have hXl5:=bX5.lt;refine aj false (aq (fun y=>y=V.v\/y=X)) (aq.refl _) (fun _ _ _ h1 h2=>aq.trans h1 h2) (.step 0 (.step 1 (.step 2 (.step 3 (.step 4 (.step 5 (.step 7 (.step 6 (.step 8 (.step 9 (.step 10 (.step 11 (.step 12 (.step 13 .done)))))))))))))) krA krA cdA ?_
     repeat (first|refine tsA ?_|refine tqA ?_)
     refine an rfl rfl rfA (fun K hK=> ?_);go_wp2_with fail;refine (yU (g:Int) _).mono ?_;rintro e W6 ⟨rfl,ho6,hb6⟩;go_wp2_with fail;refine hK _ _ (aq.below hb6 fun y hy=>by rcases hy with rfl|rfl<;>assumption) ?_
     clear hK K;have hb56:Below W5.heap.size W5 W6:=rO hb6;refine an rfl rfl rfA (fun K hK=> ?_);refine eh (.tmp 56) (.tmp 57) 22 rfl eF rfl ho6 rfl (hqo.old hb56).row (by rw [lmA,ef];omega) (cO _) mxA oA (by have:=hb56.size;simp;omega) ?_;intro a7 c7 W7 ho7 hg7;have hW6:W6.drew.heap.size=W6.heap.size:=rfl;have hb67:Below W5.heap.size W5 W7:=ho6.grown hb56 skA hg7 hb56.size;have hkeep7:∀y,y<W5.heap.size->W7.heap[y]? =W6.heap[y]? :=fun y hy=>(hb67.block y hy).trans (hb56.block y hy).symm;refine hK _ _ ⟨hg7.size,fun y hy=>hkeep7 y (by rcases hy with rfl|rfl<;>assumption)⟩ ?_
     clear hK K;have h7:=h5.old hb67;have hLr:ah W7 a7 L:=by
      rw [HLs.out];unfold ah;rw [VG];exact ho7.row
     have hLlen:L.length=8+((bZ x).length+32):=(by rw [HLs.out,laA,au,ef]);have hna:L≠ []->∀ad,a7=some ad->¬(eM r ad.block\/dJ V.R ad.block):=fun _ ad e hf=>by
      have q1:=(ho7.block_lt e).1;have q2:=(h5.dl.lt hf).2;simp at q1;omega
     repeat (first|refine tsA ?_|refine tqA ?_)
     refine an rfl rfl rfA (fun K hK=> ?_);go_wp2_with fail;have ca:=wI W7 B r V.R h7.dl (by have:=hb67.size;omega) a7 _ c7 L hLr hLlen hna;unfold Dv at ca;refine ca.mono ?_;clear ca;rintro e W8 ⟨rfl,r8,R8,hp8,hl8,-,hst8⟩;have bX7:Blk W7 X (ak x hx).toArray 40:=bX5.old hb67;have hnX:¬(eM r X\/dJ V.R X):=fun hf=>(by have:=(h.dl.lt hf).2;omega);have hnv:¬(eM r V.v\/dJ V.R V.v):=fun hf=>hf.elim (fun hf=>h.apart V.v (.inr (.inl rfl)) hf) (fun hf=>h.vault.sepl V.v (.inl rfl) hf);have bX8:Blk W8 X (ak x hx).toArray 40:=(hst8.turn.block X bX7.lt hnX).trans bX7;obtain ⟨A,hA⟩:=Le (jT r.p V.R L);have hcnt8:V.ds.length<=R8.ls.length:=by
      have q:=h.vault.cnt;rw [hl8];unfold qO;split
      .rw [laA];omega
      .exact q
     have hv8:ib B W7 r {V with bl:=bl} W8 r8 {V with bl:=bl,R:=R8}:=iq.vault (V:={V with bl:=bl}) (V':={V with bl:=bl,R:=R8}) hst8 h7 rfl hcnt8;have hs08:=hs05.trans ((ib.old h5 hb67).trans hv8);have hBW8:Below B w W8:=hs08.below h hB;have hAx:xT r.p V x=A:=(by unfold xT;rw [<-HL.out,hA]);have hl8':R8.ls=if A=0 then V.R.ls++ [L] else V.R.ls:=(by rw [hl8,hA];rfl);have hRn8:R8.nm=V.R.nm:=hst8.nm;rw [<-hA];generalize qP r.p V.R L=ai;have HA:=Hd hA;have HAx:=Hd hAx;have HL8:=Hd hl8';have HP8:=Hd hp8;have HRN:=Hd hRn8;have e0:¬jF V x=false:=(by unfold jF;rw [HM.out,HF.out];simp);have nd:¬V.down=true:=(by rw [HDN.out];simp);have nl:¬65504<(bZ x).length:=oA;have HE0:=Hd e0;have HND:=Hd nd;have HNL:=Hd nl;clear hA hl8' hp8 hRn8 e0 nd nl hAx hl8;go_wp2_with fail;refine hK _ _ ⟨hst8.turn.size,fun y hy=> ?_⟩ ?_
     .rcases hy with rfl|rfl
      .exact hst8.turn.block _ (h7.vault.blk.lt) hnv
      .exact hst8.turn.block _ bX7.lt hnX
     clear hK K L0 L1 hna hLr hLlen
     repeat (first|refine tsA ?_|refine tqA ?_)
     refine ap ?_;have h8:=hs08.at';have bv8:=h8.vault.blk;have cv1:W8.cell? ⟨V.v,1,none⟩=some (.pointer (some ⟨R8.l,0,none⟩)):=bv8.cell rfl;clear hkeep7 hW6 hg7 ho7 ho6 hb6 hb67 hb56 hqo hbo3 ht4 hs04 hs05 h5 h7 hv8 hsm hg hnv hb1 hb2 hb02 hb3 hb03 hb3B bX bX3 bX4 bX5 h1 h3 hB4 hBW8 hb5 hu nvb nXb hvl5 hXl5 hz4 hz5 hOk hlong hz hbl5;have HNX:=Hd hnX;clear hnX;by_cases hA0:A=0;rotate_left 1
     .have tA0:(A==0)=false:=(by simpa using hA0);have hAx0:xT r.p V x≠0:=(by rw [HAx.out];exact hA0);have e1:qM r.p V x=A:=(by unfold qM;rw [if_neg HND.out,if_neg HE0.out,if_neg HNL.out,if_pos hAx0,HAx.out]);have hfin:∀(V':aV) (W':World),ib B w r V W' r8 V'->V'.l=V.l->V'.R=R8->V'.down=decide (A≠3/\A≠100)->S (.returned (.int .i64 A)) W':=fun V' W' q1 q2 q3 q4=>by
       rw [HS.out];refine ⟨r8,V',by rw [e1],q1,?_,by rw [e1,if_neg hA0];exact q2,?_,by rw [q3];exact HRN.out,?_⟩
       .unfold xS;rw [if_neg HND.out,if_neg HE0.out,if_neg HNL.out,if_pos hAx0,HP8.out,HL.out]
       .unfold mm;rw [if_neg HND.out,if_neg HE0.out,if_neg HNL.out,if_pos hAx0,q3,HL8.out,if_neg hA0]
       .unfold mo;rw [if_neg HND.out,if_neg HE0.out,if_neg HNL.out,if_pos hAx0,HAx.out];exact q4
      have Hfin:=Hd hfin;clear hfin e1 hAx0;by_cases hA3:A=3
      .have tA3:(A==3)=true:=(by simpa using hA3);have q:=Hd (Hfin.out _ _ hs08 rfl rfl (by rw [Vd (fun h=>h.1 hA3)];exact HDN.out));have HA0:=Hd hA0;have HA3:=Hd hA3;clear hA0 hA3;go_wp2_with fail;exact q.out
      .have tA3:(A==3)=false:=(by simpa using hA3);by_cases hA1:A=100
       .have tA1:(A==100)=true:=(by simpa using hA1);have q:=Hd (Hfin.out _ _ hs08 rfl rfl (by rw [Vd (fun h=>h.2 hA1)];exact HDN.out));have HA0:=Hd hA0;have HA1:=Hd hA1;clear hA0 hA1 hA3;go_wp2_with fail;exact q.out
       .have tA1:(A==100)=false:=(by simpa using hA1);have tAn:(A !=0)=true:=(by simpa using hA0);have q:=Hd (Hfin.out _ _ (hs08.trans (Bn h8)) rfl rfl (by rw [VO ⟨hA3,hA1⟩]));have cv5:W8.cell? ⟨V.v,5,none⟩=some (.bool V.down):=bv8.cell rfl;have fv8:=bv8.free;clear hA0 hA3 hA1;go_wp2_with fail;exact q.out
     .subst hA0;have tA0:((0:Int)==0)=true:=rfl;have hAx0:¬xT r.p V x≠0:=(by rw [HAx.out];simp);have hls8:R8.ls=V.R.ls++ [L]:=(by rw [HL8.out,if_pos rfl]);have cs:=Cc W8 B r8 R8 h8.dl (by have:=hs08.turn.size;omega);obtain ⟨E,hE⟩:=Le ((eL r8.p R8.nm).2);rw [<-hE] at cs;have hES:(Eu r.p V x).2=E:=(by unfold Eu;rw [hE,HP8.out,HRN.out,HL.out]);have HE:=Hd hE;have HES:=Hd hES;have HAX0:=Hd hAx0;have HLS8:=Hd hls8;clear hE hES hAx0 hls8;go_wp2_with fail;refine cs.mono ?_;clear cs;rintro e W9 ⟨rfl,r9,R9,hp9,hl9,-,hst9⟩;have hv9:ib B W8 r8 {V with bl:=bl,R:=R8} W9 r9 {V with bl:=bl,R:=R9}:=iq.vault (V:={V with bl:=bl,R:=R8}) (V':={V with bl:=bl,R:=R9}) hst9 h8 rfl (by rw [hl9];exact hcnt8);have hs09:=hs08.trans hv9;have h9:=hs09.at';have bX9:Blk W9 X (ak x hx).toArray 40:=(hst9.turn.block X bX8.lt fun hf=>by
       rcases hst8.foot' X hf with q|q
       .exact HNX.out q
       .have:=bX7.lt;omega).trans bX8
      have hRn9:R9.nm=V.R.nm:=hst9.nm.trans HRN.out;have hp9':r9.p=(Eu r.p V x).1:=(by rw [hp9];unfold Eu;rw [HP8.out,HRN.out,HL.out]);have bv9:=h9.vault.blk;by_cases hE0:E=0;rotate_left 1
      .have tE:(E !=0)=true:=(by simpa using hE0);have e1:qM r.p V x=E:=(by unfold qM;rw [if_neg HND.out,if_neg HE0.out,if_neg HNL.out,if_neg HAX0.out,HES.out]);have q:S (.returned (.int .i64 E)) (W9.setCell ⟨V.v,5,none⟩ (.bool true)):=by
        rw [HS.out];refine ⟨r9,_,by rw [e1],hs09.trans (Bn h9),?_,by rw [e1,if_neg hE0];rfl,?_,hRn9,?_⟩
        .unfold xS;rw [if_neg HND.out,if_neg HE0.out,if_neg HNL.out,if_neg HAX0.out,hp9']
        .unfold mm;rw [if_neg HND.out,if_neg HE0.out,if_neg HNL.out,if_neg HAX0.out,HL.out.symm];exact hl9.trans HLS8.out
        .unfold mo;rw [if_neg HND.out,if_neg HE0.out,if_neg HNL.out,if_neg HAX0.out,HES.out,VO hE0]
       have Q:=Hd q;have cv5:W9.cell? ⟨V.v,5,none⟩=some (.bool V.down):=bv9.cell rfl;have fv9:=bv9.free;clear q e1 hE0 hp9' hRn9 hp9 hl9;go_wp2_with fail;exact Q.out
      .subst hE0;have tE:((0:Int) !=0)=false:=rfl;have e1:qM r.p V x=0:=(by unfold qM;rw [if_neg HND.out,if_neg HE0.out,if_neg HNL.out,if_neg HAX0.out,HES.out]);have hBW9:Below B w W9:=hs09.below h hB;have ck:=tQ W9 B r9.d {V with bl:=bl,R:=R9} h9.vault (At hB hs09.turn.size) x hx (fun W' ht=>hd W' (hs09.turn.trans (ht.mono fun y hy=> .inr (.inr hy)) hs09.foot')) HM.out HF.out (by
        show V.ds.length<R9.ls.length;rw [hl9,HLS8.out,laA,List.length_singleton];have:=h.vault.cnt;omega)
       rw [aH] at ck;have HP9:=Hd hp9';have HRN9:=Hd hRn9;have HL9:=Hd hl9;have HE1:=Hd e1;clear hp9' hRn9 hp9 hl9 e1;go_wp2_with (refine am rfl 40 aZ (.tmp 3) rfl rfl bX9 rfl ?_);refine ck.mono ?_;clear ck;intro e W10 hkp;obtain ⟨V10,rfl,hv10,hl10,-,-⟩:=hkp;have hs10:=hs09.trans (hv10.step h9);go_wp2_with fail;rw [HS.out];refine ⟨r9,V10,by first|(rw [HE1.out];done)|(rw [HE1.out];rfl),hs10,?_,by rw [HE1.out,if_pos rfl];exact hl10,?_,by rw [hv10.R];exact HRN9.out,?_⟩
       .unfold xS;rw [if_neg HND.out,if_neg HE0.out,if_neg HNL.out,if_neg HAX0.out,HP9.out]
       .unfold mm;rw [if_neg HND.out,if_neg HE0.out,if_neg HNL.out,if_neg HAX0.out,HL.out.symm,hv10.R];exact HL9.out.trans HLS8.out
       .unfold mo;rw [if_neg HND.out,if_neg HE0.out,if_neg HNL.out,if_neg HAX0.out,HES.out];exact hv10.down.trans HDN.out
end
end Go.Proofs.YtioigihakjlopaaGreat
