import Derived.Test.YtioigihakjlopaaGreatVR13
namespace Go.Proofs.YtioigihakjlopaaGreat
open Go.Proofs.Tryz
set_option linter.unusedVariables false
set_option linter.unusedSimpArgs false
set_option maxHeartbeats 16000000
set_option maxRecDepth 100000
section
open Go.RowKit Go.Shelf Go.Maps
attribute [local go_sem] Oper.semAt_some
theorem lI {n l:Nat} {P:Program} {w:As} {G:Array Oper} {rest:List Oper} {o:Oper} {a:Act} {Q:Exit->Act->World->Prop} (I:o.guard=none) (M:uh o=true) (ty:TypeId) {k:Nat} (N:lY P ty k) (x y:Operand) (O:o.op= .store ty x y)
  {g F:Nat} {cells:AS} (hx:a.eval x= .pointer (some ⟨g,F,none⟩)) (S:a.eval y= .agg cells) {t:TypeId} {E:AS} (T:Blk w g E t) (U:cells.size=k) (J:F+k<=E.size) (Y:cells.toList.all (·.oneCell')=true)
  (h:wpListIn (Fence.wide.inRound l) n P G Q rest (a.put o.dst undef) (w.setRow g (cU E F cells))):wpListIn (Fence.wide.inRound l) n P G Q (o::rest) a w:=
 wpListIn_plain I fun K L=>sq M (bq ty N x y O hx S T U J Y (L _ _ h))
theorem me {n l:Nat} {P:Program} {w:As} {E:Array Oper} {rest:List Oper} {o:Oper} {a:Act} {Q:Exit->Act->World->Prop} (F:o.guard=none) (G:uh o=true) (ty:TypeId) {k:Nat} (J:lY P ty k) (x:Operand) (L:o.op= .load ty x)
  {g:Nat} (hx:a.eval x= .pointer (some ⟨g,0,none⟩)) {t:TypeId} {cs:AS} (M:Blk w g cs t) (N:cs.size=k)
  (h:wpListIn (Fence.wide.inRound l) n P E Q rest (a.put o.dst (.agg cs)) w):wpListIn (Fence.wide.inRound l) n P E Q (o::rest) a w:=by
 obtain ⟨⟨d,O,T⟩,S⟩:=J;exact wpListIn_plain F fun K I=>sq G (wp_load_row ty x L g hx t cs (0,0) d M O (by cases d<;>simp_all [Ir]) (by rw [S,N]) (I _ _ h))
theorem pB {W W':As} {row:Option Nat} {g:Nat} {cs:AS} {t:TypeId} (h:Blk W g cs t) (E:W.grownBy W' row) (F:∀r,row=some r->∃o:Obj,W.heap[r]? =some o/\o.isCells=false):W'.heap[g]? =W.heap[g]? :=grownBy_keeps_cells E F h rfl
section
variable {w w':As} {B:Nat} {r:aG} {V:aR}
theorem qJ {d:Nat} {R:jo} (h:lL w B d R) {x:Nat} (hx:dP R x):∃cs t,Blk w x cs t:=by
 rcases hx with rfl|⟨G,I,rfl⟩|⟨G,m,C,J,rfl⟩
 .exact ⟨_,_,h.blk⟩
 .obtain ⟨_,_,F,E⟩:=h.rows.1.block_lt I;exact ⟨_,_,E⟩
 .obtain ⟨_,_,F,E⟩:=h.rows.inner J;exact ⟨_,_,E⟩
theorem mh {d:Nat} (h:aP w B d V) {x:Nat} (hx:ej V x):(x=V.mg\/x=V.mb)\/∃cs t,Blk w x cs t:=by
 rcases hx with rfl|⟨J,G,rfl⟩|⟨J,G,rfl⟩|⟨y,I,L⟩|rfl|rfl|⟨g,M,rfl⟩|⟨y,I,rfl⟩
 .exact .inr ⟨_,_,h.blk⟩
 .obtain ⟨_,_,F,E⟩:=h.master.block_lt G;exact .inr ⟨_,_,E⟩
 .obtain ⟨_,_,F,E⟩:=h.deeds.block_lt G;exact .inr ⟨_,_,E⟩
 .obtain ⟨_,_,F,t,E,_⟩:=(h.each y I).innerLt L;exact .inr ⟨_,_,E⟩
 .exact .inl (.inl rfl)
 .exact .inl (.inr rfl)
 .obtain ⟨_,_,F,E⟩:=(h.rows g M).block_lt rfl;exact .inr ⟨_,_,E⟩
 .exact .inr ⟨_,_,(h.boxes y I).2.2⟩
theorem nS (h:aK w B r) {x:Nat} (hx:fp r x):x=r.m\/∃cs t,Blk w x cs t:=by
 rcases hx with rfl|rfl|⟨f,F,rfl|hx⟩|hx
 .exact .inr ⟨_,_,h.blk⟩
 .exact .inl rfl
 .exact .inr ⟨_,_,(h.files f F).blk⟩
 .obtain ⟨_,_,G,E⟩:=(h.files f F).row.lt hx;exact .inr ⟨_,_,E⟩
 .rw [WH] at hx;obtain ⟨a,I,rfl⟩:=hx;obtain ⟨_,_,G,E⟩:=h.plan.block_lt I;exact .inr ⟨_,_,E⟩
theorem VL.grown (h:VL w B r V) {C:Nat} (G:r.m<C/\V.mg<C/\V.mb<C) {row:Option Nat} (I:w.grownBy w' row) (J:∀q,row=some q->C<=q/\∃o:Obj,w.heap[q]? =some o/\o.isCells=false):VL w' B r V:=h.keep fun x hx=>by
 have L:=(h.lt hx).2;have E:(∃cs t,Blk w x cs t)->w'.heap[x]? =w.heap[x]? :=fun ⟨cs,t,M⟩=>pB M I fun q e=>(J q e).2;have F:x<C->w'.heap[x]? =w.heap[x]? :=fun hx=>I.block x L fun e=>(by have:=(J x e.symm).1;omega);rcases hx with hx|hx|hx
 .rcases nS h.disk hx with rfl|hc
  .exact F G.1
  .exact E hc
 .exact E (qJ h.vault.log hx)
 .rcases mh h.vault hx with (rfl|rfl)|hc
  .exact F G.2.1
  .exact F G.2.2
  .exact E hc
end
structure OpS (B:Nat) (w:As) (r0 r:aG) (R:jo) (m:Le) (P A H X C:Nat) (ls:List Le) (wh:Bool) (ka k:Nat) (V:aR) (W:As):Prop where
 vl:VL W B r V
 ptr:Blk W P #[.pointer (some ⟨V.v,0,none⟩)] 28
 at':Blk W A #[.int .i64 ((aA (ls.take ka)).length:Int)] 3
 wh':Blk W H #[.bool wh] 4
 eqs:V.R=R/\V.m=m/\V.down=false
 maps:r.m<C/\V.mg<C/\V.mb<C
 new:∀x,iT r V x->fp r0 x\/w.heap.size<=x
 newR:∀x,ej V x->w.heap.size<=x
 sep:∀x,iT r V x->x≠P/\x≠A/\x≠H/\x≠X
 len:V.l.length=k
 scan:Hid (fN m [] ls=fN m V.l (ls.drop k))
 turn:aJ (fp r0) w W
 big:C<=W.heap.size/\P<C/\A<C/\H<C/\X<C
theorem OpS.grown {B:Nat} {w:As} {r0 r:aG} {R:jo} {m:Le} {P A H X C:Nat} {ls:List Le} {wh:Bool} {ka k:Nat} {V:aR} {Y Z:As} (h:OpS B w r0 r R m P A H X C ls wh ka k V Y) (M:w.heap.size<=C) {row:Option Nat} (E:Y.grownBy Z row) (I:∀q,row=some q->C<=q/\∃o:Obj,Y.heap[q]? =some o/\o.isCells=false):OpS B w r0 r R m P A H X C ls wh ka k V Z:=by
 have F:∀r,row=some r->∃o:Obj,Y.heap[r]? =some o/\o.isCells=false:=fun r e=>(I r e).2;exact ⟨h.vl.grown h.maps E I,(pB h.ptr E F).trans h.ptr,(pB h.at' E F).trans h.at',(pB h.wh' E F).trans h.wh',h.eqs,h.maps,h.new,h.newR,h.sep,h.len,h.scan,
   h.turn.trans (G:=fun x=>row=some x) ⟨E.os,E.tape,E.output,E.size,fun k J L=>E.block k J fun e=>L e.symm⟩ (fun k e=> .inr (by have:=(I k e).1;omega)),Vd h.big.1 E.size,h.big.2⟩
theorem OpS.own (B:Nat) (w:As) (r0 r:aG) (R:jo) (m:Le) (P A H X C:Nat) (ls:List Le) (wh:Bool) (E:w.heap.size<=C) {α:Type} (f:α->Nat):OwnFrom C (fun (s:α) W=>∃V,OpS B w r0 r R m P A H X C ls wh (f s) (f s) V W):=
 fun s Y Z row F G I=>by
  obtain ⟨V,h⟩:=F;exact ⟨V,h.grown E G I⟩
section
variable {B:Nat} {w:As} {r0 r:aG} {R:jo} {m:Le} {P A H X C:Nat} {ls:List Le} {wh:Bool} {ka k:Nat} {V V':aR} {W W':As}
theorem OpS.only (h:OpS B w r0 r R m P A H X C ls wh ka k V W) (E:iJ B r.d W V W' V') (I:V'.mg=V.mg/\V'.mb=V.mb) {k':Nat} (M:V'.l.length=k') (J:Hid (fN m [] ls=fN m V'.l (ls.drop k'))) (S:w.heap.size<=W.heap.size):OpS B w r0 r R m P A H X C ls wh ka k' V' W':=by
 have F:=E.step h.vl;have G:∀y,y=P\/y=A\/y=H\/y=X->y<W.heap.size->W'.heap[y]? =W.heap[y]? :=fun y N L=>F.turn.block y L fun O=>by
  have:=h.sep y O;rcases N with rfl|rfl|rfl|rfl
  .exact this.1 rfl
  .exact this.2.1 rfl
  .exact this.2.2.1 rfl
  .exact this.2.2.2 rfl
 refine ⟨F.at',?_,?_,?_,⟨E.R.trans h.eqs.1,E.m.trans h.eqs.2.1,E.down.trans h.eqs.2.2⟩,by rw [I.1,I.2];exact h.maps,fun x hx=> ?_,fun x hx=> ?_,fun x hx=> ?_,M,J,h.turn.trans F.turn h.new,Vd h.big.1 E.turn.size,h.big.2⟩
 .rw [E.v];exact (G P (.inl rfl) h.ptr.lt).trans h.ptr
 .exact (G A (.inr (.inl rfl)) h.at'.lt).trans h.at'
 .exact (G H (.inr (.inr (.inl rfl))) h.wh'.lt).trans h.wh'
 .rcases F.foot' x hx with h1|h1
  .exact h.new x h1
  .exact .inr oA
 .rcases E.foot' x hx with h1|h1
  .exact h.newR x h1
  .omega
 .rcases F.foot' x hx with h1|h1
  .exact h.sep x h1
  .have:=h.big;refine ⟨?_,?_,?_,?_⟩<;>omega
theorem OpS.old (h:OpS B w r0 r R m P A H X C ls wh ka k V W) (E:Below W.heap.size W W'):OpS B w r0 r R m P A H X C ls wh ka k V W':=
 ⟨h.vl.old E,h.ptr.old E,h.at'.old E,h.wh'.old E,h.eqs,h.maps,h.new,h.newR,h.sep,h.len,h.scan,h.turn.trans (aJ.of_below (F:=fp r0) E) fun _ h=> .inl h,Vd h.big.1 E.size,h.big.2⟩
theorem OpS.setAt (h:OpS B w r0 r R m P A H X C ls wh ka k V W) (G:w.heap.size<=A) (F:A≠P/\A≠H) {v:Int} {k':Nat} (I:v=((aA (ls.take k')).length:Int)):OpS B w r0 r R m P A H X C ls wh k' k V (W.setCell ⟨A,0,none⟩ (.int .i64 v)):=by
 subst I;have E:∀x,x≠A->(W.setCell ⟨A,0,none⟩ (.int .i64 ((aA (ls.take k')).length:Int))).heap[x]? =W.heap[x]? :=fun x hx=>Vq W ⟨A,0,none⟩ x _ hx;exact ⟨h.vl.keep fun x hx=>E x (h.sep x hx).2.1,(E P (fun e=>F.1 e.symm)).trans h.ptr,h.at'.set 0 _,(E H (fun e=>F.2 e.symm)).trans h.wh',h.eqs,h.maps,h.new,h.newR,h.sep,h.len,h.scan,h.turn.setCell (x:=⟨A,0,none⟩) (.inr G) _,by simpa [World.setCell] using h.big⟩
theorem OpS.setWh (h:OpS B w r0 r R m P A H X C ls wh ka k V W) (G:w.heap.size<=H) (F:H≠P/\H≠A) (b:Bool):OpS B w r0 r R m P A H X C ls b ka k V (W.setCell ⟨H,0,none⟩ (.bool b)):=by
 have E:∀x,x≠H->(W.setCell ⟨H,0,none⟩ (.bool b)).heap[x]? =W.heap[x]? :=fun x hx=>Vq W ⟨H,0,none⟩ x _ hx;exact ⟨h.vl.keep fun x hx=>E x (h.sep x hx).2.2.1,(E P (fun e=>F.1 e.symm)).trans h.ptr,(E A (fun e=>F.2 e.symm)).trans h.at',h.wh'.set 0 _,h.eqs,h.maps,h.new,h.newR,h.sep,h.len,h.scan,h.turn.setCell (x:=⟨H,0,none⟩) (.inr G) _,by simpa [World.setCell] using h.big⟩
end
theorem Fb {V:aR} {bl:List (Nat×Nat)} {y:Nat} (h:ej {V with bl:=bl} y):ej V y\/∃z∈bl,y=z.2:=by
 rcases h with hx|hx|hx|hx|hx|hx|hx|hx
 .exact .inl (.inl hx)
 .exact .inl (.inr (.inl hx))
 .exact .inl (.inr (.inr (.inl hx)))
 .exact .inl (.inr (.inr (.inr (.inl hx))))
 .exact .inl (.inr (.inr (.inr (.inr (.inl hx)))))
 .exact .inl (.inr (.inr (.inr (.inr (.inr (.inl hx))))))
 .exact .inl (.inr (.inr (.inr (.inr (.inr (.inr (.inl hx)))))))
 .exact .inr hx
section
variable {B:Nat} {w:As} {r0 r:aG} {R:jo} {m:Le} {P A H X C:Nat} {ls:List Le} {wh:Bool} {ka k:Nat} {V V':aR} {W W':As}
theorem OpS.keeps (h:OpS B w r0 r R m P A H X C ls wh ka k V W) (F:aJ (ej V) W W'):KeepsFrom C W W':=
 ⟨F.size,fun q o M E I=>by
  have G:q<W.heap.size:=(VT.1 E).1;refine (F.block q G fun J=> ?_).trans E;rcases mh h.vl.vault J with (rfl|rfl)|⟨cs,t,L⟩
  .have:=h.maps.2.1;omega
  .have:=h.maps.2.2;omega
  .have hb':W.heap[q]? =_:=L;rw [E] at hb';cases hb';cases I⟩
theorem OpS.kpAt (h:OpS B w r0 r R m P A H X C ls wh ka k V W) (E:aJ (ej V) W W'):au (fun y=>dP R y\/y=X) W W':=
 ⟨E.size,fun y F=>by
  rcases F with F|rfl
  .have hy':dP V.R y:=(by rw [h.eqs.1];exact F);exact E.block y (h.vl.vault.log.lt hy').2 fun G=>h.vl.vault.sepl y G hy'
  .exact E.block y (by have:=h.big;omega) fun G=>(h.sep y (.inr (.inr G))).2.2.2 rfl⟩
theorem OpS.kpOld (h:OpS B w r0 r R m P A H X C ls wh ka k V W) (F:Below W.heap.size W W'):au (fun y=>dP R y\/y=X) W W':=au.below F fun y E=>by
 rcases E with E|rfl
 .exact (h.vl.vault.log.lt (by rw [h.eqs.1];exact E)).2
 .have:=h.big;omega
theorem xW (E:Below W.heap.size W W'):KeepsFrom C W W':=⟨E.size,fun q o _ F _=>(E.block q (VT.1 F).1).trans F⟩
theorem OpS.failed (h:OpS B w r0 r R m P A H X C ls wh ka k V W) (E:k<ls.length) (G:(bG V.m V.l ls[k]).2=false):Hid (k<ls.length/\(fN m [] ls).length=k):=by
 have F:=h.scan.out;rw [XT E,fN,<-h.eqs.2.1,G] at F;exact Hd ⟨E,by rw [<-h.eqs.2.1,F];exact h.len⟩
theorem OpS.next (h:OpS B w r0 r R m P A H X C ls wh ka k V W) (F:k<ls.length) {x:ao} (hx:(bG V.m V.l ls[k]).1=x) (G:(bG V.m V.l ls[k]).2=true):Hid (fN m [] ls=fN m (V.l++ [x]) (ls.drop (k+1))):=by
 have E:=h.scan.out;rw [XT F,fN,<-h.eqs.2.1,G,hx,Vz rfl] at E;rw [<-h.eqs.2.1];exact Hd E
end
def jb (v:Nat) (ma:Lt) (mc:Nat) (m:Le) (R:jo) (mg mb:Nat):aR:=⟨v,ma,mc,m,R,none,0,[],mg,fun _=>0,fun _=>0,mb,[],false⟩
theorem Dg {w:As} {B B':Nat} {r:aG} {R:jo} (h:DL w B r R) (Z:B<=w.heap.size) {ka:Lt} {L E:Nat} {m:Le} (d:m.length=L) (f:L<=1000000) (j:Own w B' 5 1 ka L E (m.map bv)) (T:B<=B') (U:∀G,ka=some G->¬(fp r G.block\/dP R G.block)):
  VL (((w.alloc (.map #[] 0)).alloc (.map #[] 0)).alloc (.cells #[.slice ka L E,.pointer (some ⟨R.l,0,none⟩),.slice none 0 0,.map (some w.heap.size),.map (some (w.heap.size+1)),.bool false] 93)) B r (jb (w.heap.size+1+1) ka E m R w.heap.size (w.heap.size+1)):=by
 subst d;have S:Below w.heap.size w (((w.alloc (.map #[] 0)).alloc (.map #[] 0)).alloc (.cells #[.slice ka m.length E,.pointer (some ⟨R.l,0,none⟩),.slice none 0 0,.map (some w.heap.size),.map (some (w.heap.size+1)),.bool false] 93)):=(((VW _ _).alloc (VU _) _).alloc skA _).alloc soA _;have N:=h.old S;have Y:∀x,ej (jb (w.heap.size+1+1) ka E m R w.heap.size (w.heap.size+1)) x->w.heap.size<=x\/atB ka x:=by
  intro x hx;rcases hx with rfl|hx|⟨G,M,rfl⟩|⟨y,I,o⟩|rfl|rfl|⟨g,F,rfl⟩|⟨y,I,rfl⟩
  .exact .inl (by simp [jb];omega)
  .exact .inr hx
  .cases M
  .cases I
  .exact .inl (by simp [jb])
  .exact .inl (by simp [jb])
  .exact absurd F (Xu _)
  .cases I
 have O:∀x,ej (jb (w.heap.size+1+1) ka E m R w.heap.size (w.heap.size+1)) x->¬(fp r x\/dP R x):=fun x hx J=>by
  rcases Y x hx with q|⟨G,M,rfl⟩
  .have:=(h.lt J).2;omega
  .exact U G M J
 refine ⟨N.disk,⟨⟨by simp [jb];omega,Z,by simp [jb];omega,by simp [jb]⟩,?_,(j.lower T).old S,f,N.log,Own.nil _ _ _ _,(fun x hx=>by cases hx),?_,(fun g F=>absurd F (Xu _)),(fun g p F=>absurd F (Xu _)),(fun g F=>absurd F (Xu _)),?_,(fun y I=>by cases I),fun x hx n=>O x hx (.inr n),nr.nil,Vt _⟩,fun x hx J=> ?_⟩
 .have e:((w.alloc (.map #[] 0)).alloc (.map #[] 0)).heap.size=w.heap.size+1+1:=skA;have:=Blk.new ((w.alloc (.map #[] 0)).alloc (.map #[] 0)) #[.slice ka m.length E,.pointer (some ⟨R.l,0,none⟩),.slice none 0 0,.map (some w.heap.size),.map (some (w.heap.size+1)),.bool false] 93;rw [e] at this;exact this
 .refine (iV.made w prog 3 Rs).keep ?_;exact (Vp _ _ _ soA).trans (Vp _ _ _ skA)
 .have h2:=iV.made (w.alloc (.map #[] 0)) prog 3 Rb;have e:(w.alloc (.map #[] 0)).heap.size=w.heap.size+1:=skA;rw [e] at h2;exact h2.keep (Vp _ _ _ skA)
 .rcases hx with hx|hx
  .exact h.apart x hx J
  .exact O x hx (.inl J)
theorem wN {w:As} {B:Nat} {r:aG} {V:aR} (h:VL w B r V) {x:Nat} (hx:iT r V x):(∃F E,w.heap[x]? =some (.map F E))\/∃cs t,Blk w x cs t:=by
 rcases hx with hx|hx|hx
 .rcases nS h.disk hx with rfl|hc
  .exact .inl h.disk.map.obj
  .exact .inr hc
 .exact .inr (qJ h.vault.log hx)
 .rcases mh h.vault hx with (rfl|rfl)|hc
  .exact .inl h.vault.gm.obj
  .exact .inl h.vault.bm.obj
  .exact .inr hc
structure OpT (B:Nat) (w:As) (r0 r:aG) (P A D at_:Nat) (V:aR) (W:As):Prop where
 vl:VL W B r V
 ptr:Blk W P #[.pointer (some ⟨V.v,0,none⟩)] 28
 at':Blk W A #[.int .i64 (at_:Int)] 3
 dfr:W.heap[D]? =some (.deferred (some []))
 new:∀x,iT r V x->fp r0 x\/w.heap.size<=x
 newR:∀x,ej V x->w.heap.size<=x
 sep:∀x,iT r V x->x≠P/\x≠A/\x≠D
 turn:aJ (fp r0) w W
section
variable {B:Nat} {w:As} {r0 r r':aG} {P A D at_:Nat} {V V':aR} {W W':As}
theorem OpS.toT {R:jo} {m:Le} {H X C:Nat} {ls:List Le} {wh:Bool} {ka k:Nat} (h:OpS B w r0 r R m P A H X C ls wh ka k V W) (E:W.heap[D]? =some (.deferred (some []))) (G:(aA (ls.take ka)).length=at_):OpT B w r0 r P A D at_ V W:=by
 subst G;refine ⟨h.vl,h.ptr,h.at',E,h.new,h.newR,fun x hx=>⟨(h.sep x hx).1,(h.sep x hx).2.1,fun e=> ?_⟩,h.turn⟩;subst e;rcases wN h.vl hx with ⟨L,J,F⟩|⟨cs,t,I⟩
 .rw [E] at F;cases F
 .have hb':W.heap[x]? =_:=I;rw [E] at hb';cases hb'
theorem OpT.old (h:OpT B w r0 r P A D at_ V W) (E:Below W.heap.size W W'):OpT B w r0 r P A D at_ V W':=
 ⟨h.vl.old E,h.ptr.old E,h.at'.old E,(E.block D (VT.1 h.dfr).1).trans h.dfr,h.new,h.newR,h.sep,h.turn.trans (aJ.of_below (F:=fp r0) E) fun _ h=> .inl h⟩
theorem OpT.step (h:OpT B w r0 r P A D at_ V W) (E:ik B W r V W' r' V') (J:∀x,ej V' x->ej V x\/W.heap.size<=x):OpT B w r0 r' P A D at_ V' W':=by
 have N:=h.turn.size;have F:∀y,y=P\/y=A\/y=D->y<W.heap.size->W'.heap[y]? =W.heap[y]? :=fun y L G=>E.turn.block y G fun M=>by
  have:=h.sep y M;rcases L with rfl|rfl|rfl
  .exact this.1 rfl
  .exact this.2.1 rfl
  .exact this.2.2 rfl
 have I:D<W.heap.size:=(VT.1 h.dfr).1;refine ⟨E.at',?_,(F A (.inr (.inl rfl)) h.at'.lt).trans h.at',(F D (.inr (.inr rfl)) I).trans h.dfr,fun x hx=> ?_,fun x hx=> ?_,fun x hx=> ?_,h.turn.trans E.turn h.new⟩
 .rw [E.v];exact (F P (.inl rfl) h.ptr.lt).trans h.ptr
 .rcases E.foot' x hx with q|q
  .exact h.new x q
  .exact .inr oA
 .rcases J x hx with q|q
  .exact h.newR x q
  .omega
 .rcases E.foot' x hx with q|q
  .exact h.sep x q
  .have:=h.ptr.lt;have:=h.at'.lt;refine ⟨?_,?_,?_⟩<;>omega
theorem VL.defer (h:VL W B r V) (E:W.heap[D]? =some (.deferred (some []))) (o:Obj):VL (W.putObj D o) B r V:=h.keep fun x hx=>World.putObj_heap_other fun e=>by
 subst e;rcases wN h hx with ⟨J,I,F⟩|⟨cs,t,G⟩
 .rw [E] at F;cases F
 .have hb':W.heap[x]? =_:=G;rw [E] at hb';cases hb'
theorem aK.defer (h:aK W B r) (E:W.heap[D]? =some (.deferred (some []))) (o:Obj):aK (W.putObj D o) B r:=h.keep fun x hx=>World.putObj_heap_other fun e=>by
 subst e;rcases nS h hx with rfl|⟨cs,t,G⟩
 .obtain ⟨J,I,F⟩:=h.map.obj;rw [E] at F;cases F
 .have hb':W.heap[x]? =_:=G;rw [E] at hb';cases hb'
theorem aJ.defer {F:Nat->Prop} (h:aJ F w W) (J:w.heap.size<=D) (o:Obj):aJ F w (W.putObj D o):=by
 have E:=grownBy_putObj' W D o;exact ⟨E.os.trans h.os,E.tape.trans h.tape,E.output.trans h.output,Vd h.size E.size,fun k G I=>(World.putObj_heap_other oA).trans (h.block k G I)⟩
end
theorem PZ {B:Nat} {w w':As} {r r':aG} {V:aR} {F:jo} (h:VL w B r V) (o:bL B w r w' r') (S:DL w' B r' F) (T:∀x,dP F x->w.heap.size<=x) (p:V.ds.length<=F.ls.length):
  ik B w r V (w'.setCell ⟨V.v,1,none⟩ (.pointer (some ⟨F.l,0,none⟩))) r' {V with R:=F}:=by
 have J:=bL.vault o h;have E:=J.at'.vault;have G:∀x,x≠V.v->(w'.setCell ⟨V.v,1,none⟩ (.pointer (some ⟨F.l,0,none⟩))).heap[x]? =w'.heap[x]? :=fun x hx=>Vq w' ⟨V.v,1,none⟩ x _ hx;have A0:∀x,ej {V with R:=F} x↔ej V x:=fun x=>Iff.rfl;have Y:∀x,ej V x->x<w.heap.size:=fun x hx=>(h.vault.ltR hx).2;have N:ej V V.v:= .inl rfl;have f:∀x,dP F x->x≠V.v:=fun x hx e=>(by have:=T x hx;have:=Y _ N;omega);have j:∀x,fp r' x->x≠V.v:=fun x hx e=>J.at'.apart V.v (.inr N) (e▸hx);have M:∀x cs t,Blk w' x cs t->t≠93->x≠V.v:=fun x cs t I U=>I.ne E.blk U;have n:aP (w'.setCell ⟨V.v,1,none⟩ (.pointer (some ⟨F.l,0,none⟩))) B r'.d {V with R:=F}:=by
  refine ⟨E.ge,?_,E.master.keepAt fun x hx=> ?_,E.mz,S.log.keep fun x hx=>G x (f x hx),E.deeds.keepAt fun x hx=> ?_,fun x hx=>(E.each x hx).keepB fun y L=> ?_,E.gm.keep (G _ fun e=>E.blk.ne_gmap E.gm e.symm),
   fun g Z=>(E.rows g Z).keepAt fun x hx=> ?_,E.sepf,E.sepi,E.bm.keep (G _ fun e=>E.blk.ne_gmap E.bm e.symm),fun y L=>⟨(E.boxes y L).1,(E.boxes y L).2.1,(G _ (M _ _ _ (E.boxes y L).2.2 dcA)).trans (E.boxes y L).2.2⟩,fun x hx q=> ?_,E.good,p⟩
  .have:=E.blk.set 1 (.pointer (some ⟨F.l,0,none⟩));simpa [aV] using this
  .obtain ⟨_,_,O,I⟩:=E.master.block_lt hx;exact G _ (M _ _ _ I dcA)
  .obtain ⟨_,_,O,I⟩:=E.deeds.block_lt hx;exact G _ (M _ _ _ I dcA)
  .obtain ⟨_,_,O,t,I,U⟩:=(E.each x hx).innerLt L;exact G _ (M _ _ _ I (by rcases U with rfl|rfl<;>decide))
  .obtain ⟨_,_,O,I⟩:=(E.rows g Z).block_lt hx;exact G _ (M _ _ _ I dcA)
  .have:=Y x hx;have:=T x q;omega
 refine ⟨J.turn.setCell (x:=⟨V.v,1,none⟩) (.inl (.inr (.inr N))) _,⟨S.disk.keep fun x hx=>G x (j x hx),n,fun x hx hfx=> ?_⟩,fun x hx=> ?_,J.d,rfl,rfl⟩
 .rcases hx with hx|hx
  .exact S.apart x hx hfx
  .exact J.at'.apart x (.inr hx) hfx
 .rcases hx with hx|hx|hx
  .exact J.foot' x (.inl hx)
  .exact .inr (T x hx)
  .exact .inl (.inr (.inr hx))
end
section
open Go.RowKit Go.Maps
theorem Af (n:Int) (w:As):Calls prog 56 #[.int .i64 n] w fun e w'=>e= .returned (.slice (some ⟨w.heap.size,0,none⟩) 8 8)/\Own w' w.heap.size 5 1 (some ⟨w.heap.size,0,none⟩) 8 8 ((be8 n).map bv)/\Below w.heap.size w w':=by
 have O:=fun W=>MA W;obtain ⟨H,F⟩:=At w.heap.size;rw [<-F];have J:=Blk.new w (vA 8 fun _=> .int .u8 0) 5;go_enter func56,ntmps56;go_upto_region 2 with fail;clear O;rw [<-F] at J⊢;refine ag (fun T=>Ve1 w H n 8 (.int .i64 0) T) ⟨0,oA,rfl,J.ofV fun j _=>by rw [VV oA],by rw [F];exact cL⟩ ?_;have f:=Hd F;have d:w.heap.size<=H:=VM F.symm;clear J F;intro w1 M;go_wp2_with fail;go_loopg [8] 8 (fun g i wr=>Ve1 w H n g i wr)
 case atStart=>exact M
 case round=>
  clear M;obtain ⟨t,G,rfl,I,N⟩:=hrel;have L:=Hd G;clear G;by_cases o:t<8
  .have HE:=Hd fun t p=>Ex n t p;have f0:=I.free;have U:t=0\/t=1\/t=2\/t=3\/t=4\/t=5\/t=6\/t=7:=oA;rcases U with rfl|rfl|rfl|rfl|rfl|rfl|rfl|rfl
   all_goals
    have Y:=I.atV oA rfl
    go_wp2_with fail
    clear Y f0
    go_roundg (gk-1)
    case rel=>
     have G:=L.out
     refine ⟨_,oA,gnA,(I.setV oA _).ofV fun j _=>zS n _ j _ ?_,N.setCell (by show H<=H;omega) _⟩
     first
      |exact HE.out _ _ rfl
      |(have E:=HE.out 7 1 rfl;rw [Int.ediv_one] at E;exact E)
    case measure=>have G:=L.out;omega
  .obtain rfl:t=8:=(by have:=L.out;omega);go_wp2_with fail;go_ret;have S:=I.ofV (g:=fun j=>bv (GJ n j)) fun j Z=>Vz Z;refine ⟨rfl,⟨by rw [lmA,an],.inr ⟨H,8,_,rfl,VU _,S,VU _,mxA,ay _ _,?_⟩⟩,N⟩;simp only [vA,vL,be8,GJ,We];rw [VZ skA];rfl
theorem Ct {B:Nat} {w:As} {r:aG} {V:aR} (h:VL w B r V):ik B w r V (w.setCell ⟨V.v,5,none⟩ (.bool true)) r {V with down:=true}:=by
 have E:=h.vault;have F:∀x,x≠V.v->(w.setCell ⟨V.v,5,none⟩ (.bool true)).heap[x]? =w.heap[x]? :=fun x hx=>Vq w ⟨V.v,5,none⟩ x _ hx;have L:ej V V.v:= .inl rfl;have S:∀x,dP V.R x->x≠V.v:=fun x hx e=>E.sepl V.v L (e▸hx);have T:∀x,fp r x->x≠V.v:=fun x hx e=>h.apart V.v (.inr L) (e▸hx);have J:∀x cs t,Blk w x cs t->t≠93->x≠V.v:=fun x cs t G N=>G.ne E.blk N;have U:aP (w.setCell ⟨V.v,5,none⟩ (.bool true)) B r.d {V with down:=true}:=by
  refine ⟨E.ge,?_,E.master.keepAt fun x hx=> ?_,E.mz,E.log.keep fun x hx=>F x (S x hx),E.deeds.keepAt fun x hx=> ?_,fun x hx=>(E.each x hx).keepB fun y I=> ?_,E.gm.keep (F _ fun e=>E.blk.ne_gmap E.gm e.symm),
   fun g O=>(E.rows g O).keepAt fun x hx=> ?_,E.sepf,E.sepi,E.bm.keep (F _ fun e=>E.blk.ne_gmap E.bm e.symm),fun y I=>⟨(E.boxes y I).1,(E.boxes y I).2.1,(F _ (J _ _ _ (E.boxes y I).2.2 dcA)).trans (E.boxes y I).2.2⟩,E.sepl,E.good,E.cnt⟩
  .have:=E.blk.set 5 (.bool true);simpa [aV] using this
  .obtain ⟨_,_,M,G⟩:=E.master.block_lt hx;exact F _ (J _ _ _ G dcA)
  .obtain ⟨_,_,M,G⟩:=E.deeds.block_lt hx;exact F _ (J _ _ _ G dcA)
  .obtain ⟨_,_,M,t,G,N⟩:=(E.each x hx).innerLt I;exact F _ (J _ _ _ G (by rcases N with rfl|rfl<;>decide))
  .obtain ⟨_,_,M,G⟩:=(E.rows g O).block_lt hx;exact F _ (J _ _ _ G dcA)
 exact ⟨(aJ.refl _ _).setCell (x:=⟨V.v,5,none⟩) (.inl (.inr (.inr L))) _,⟨h.disk.keep fun x hx=>F x (T x hx),U,h.apart⟩,fun x hx=> .inl hx,rfl,rfl,rfl⟩
def rJ (p:aN) (V:aR) (x:ao):Int:=iH p V.R (gO V.m V.l x)
def wU (p:aN) (V:aR) (x:ao):aN×Int:=et (kq p V.R (gO V.m V.l x)) V.R.nm
def jp (V:aR) (x:ao):Bool:=iE x&&bz V.l x
def kG (p:aN) (V:aR) (x:ao):Int:=if V.down=true then 5 else if jp V x=false then 2 else if 65504<(bj x).length then 3 else if rJ p V x≠0 then rJ p V x else (wU p V x).2
def qs (p:aN) (V:aR) (x:ao):aN:=if V.down=true then p else if jp V x=false then p else if 65504<(bj x).length then p else if rJ p V x≠0 then kq p V.R (gO V.m V.l x) else (wU p V x).1
def jB (p:aN) (V:aR) (x:ao):Bool:=if V.down=true then true else if jp V x=false then false else if 65504<(bj x).length then false else if rJ p V x≠0 then decide (rJ p V x≠3/\rJ p V x≠100) else decide ((wU p V x).2≠0)
def jA (p:aN) (V:aR) (x:ao):List Le:=if V.down=true then V.R.ls else if jp V x=false then V.R.ls else if 65504<(bj x).length then V.R.ls else if rJ p V x≠0 then V.R.ls else V.R.ls++ [gO V.m V.l x]
def KW (B:Nat) (w:As) (r:aG) (V:aR) (x:ao) (e:Ending) (w':As):Prop:=
 ∃(r':aG) (V':aR),e= .returned (.int .i64 (kG r.p V x))/\ik B w r V w' r' V'/\r'.p=qs r.p V x/\V'.l=(if kG r.p V x=0 then V.l++ [x] else V.l)/\V'.R.ls=jA r.p V x/\V'.R.nm=V.R.nm/\V'.down=jB r.p V x
theorem tm (w:As) (B:Nat) (r:aG) (V:aR) (h:VL w B r V) (hB:B<=w.heap.size) (x:ao) (hx:aY) (hd:∀W,aJ (iT r V) w W->dp W x hx) (hz:(bZ x.act).length<100000000000):
  Calls prog 13 #[.pointer (some ⟨V.v,0,none⟩),dG x hx] w (KW B w r V x):=by
 obtain ⟨S,hS⟩:=At (KW B w r V x);rw [<-hS];have HS:=Hd hS;clear hS;have H1:=Hd (rfl:jp V x=(iE x&&bz V.l x));rw [aD];go_enter func13,ntmps13;go_upto_region 1 with fail;obtain ⟨X,hX⟩:=At w.heap.size;rw [<-hX];refine ag (fun W=>Blk W X (af x hx).toArray 40/\Below w.heap.size w W) ⟨by rw [hX];exact Blk.new _ _ _,cL⟩ ?_;rintro W1 ⟨bX,B1⟩;have I6:w.heap.size<=X:=VM hX.symm;clear hX;have h1:=h.old B1;have cd:W1.cell? ⟨V.v,5,none⟩=some (.bool V.down):=h1.vault.blk.cell rfl;cases M:V.down with
 |true=>
  rw [M] at cd;go_wp2_with fail;rw [HS.out];have F:kG r.p V x=5:=(by unfold kG;rw [Vz M]);exact ⟨r,V,by first|(rw [F];done)|(rw [F];rfl),ik.old h B1,by unfold qs;rw [Vz M],by rw [F];rfl,by unfold jA;rw [Vz M],rfl,by unfold jB;rw [Vz M];exact M⟩
 |false=>
  rw [M] at cd;have cb:=Ag x hx W1 (hd W1 (aJ.of_below B1)) hz;rw [aD] at cb;have B2:=Hd M;go_wp2_with (refine ap rfl 40 aZ (.tmp 3) rfl rfl bX rfl ?_);refine cb.mono ?_;clear cb cd;intro e W2 B4;unfold iK at B4;cases A7:iE x with
  |false=>
   rw [A7,VV skA] at B4;obtain ⟨rfl,B5⟩:=B4;go_wp2_with fail;rw [HS.out];have G:jp V x=false:=(by unfold jp;rw [A7];rfl);have I:¬V.down=true:=(by rw [M];simp);have F:kG r.p V x=2:=(by unfold kG;rw [VV I,Vz G]);exact ⟨r,V,by first|(rw [F];done)|(rw [F];rfl),ik.old h (aa B1 B5),by unfold qs;rw [VV I,Vz G],by rw [F];rfl,by unfold jA;rw [VV I,Vz G],rfl,by unfold jB;rw [VV I,Vz G];exact M⟩
  |true=>
   rw [A7,Vz rfl] at B4;obtain ⟨ba,bc,rfl,F8,B5⟩:=B4;have C0:=aa B1 B5;have h2:=h.old C0;have D9:=bX.old B5;have HR:Below B w W2:=C0.mono hB;go_wp2_with fail;refine (om W2 B r.d V h2.vault X x hx D9).mono ?_;rintro e W3 ⟨rfl,C6⟩;have A8:=aa C0 C6;have Z:=h.old A8;have B6:=D9.old C6;have C1:=F8.old C6;have HT:Below B w W3:=A8.mono hB;clear h2 D9 HR;cases B7:bz V.l x with
   |false=>
    go_wp2_with fail;rw [HS.out];have G:jp V x=false:=(by unfold jp;rw [A7,B7];rfl);have I:¬V.down=true:=(by rw [M];simp);have F:kG r.p V x=2:=(by unfold kG;rw [VV I,Vz G]);exact ⟨r,V,by first|(rw [F];done)|(rw [F];rfl),ik.old h A8,by unfold qs;rw [VV I,Vz G],by rw [F];rfl,by unfold jA;rw [VV I,Vz G],rfl,by unfold jB;rw [VV I,Vz G];exact M⟩
   |true=>
    obtain ⟨g,hg⟩:∃g:Nat,x.game=(g:Int):=⟨x.game.toNat,by have:=(dI B7).1;omega⟩;have F9:=Z.vault.small;have EE:g<=4096:=by
     have q1:=(dI B7).2.2;by_cases hk:x.kind=1
     .have:=q1.2 hk;omega
     .have:=q1.1 hk;omega
    obtain ⟨sa,sc,D4⟩:=Z.vault.rowLook EE;obtain ⟨n,hn⟩:=At ((ofG V.l (g:Int)).length);rw [<-hn] at D4;have H2:n<=4096:=(by rw [hn,<-fl];exact F9.2.2 _);obtain ⟨bn,C7⟩:=At ((bj x).length);rw [<-C7] at C1;rw [<-C7];have HN:=Hd hn;have HG:=Hd hg;have EQ:=Hd C7;have HM:=Hd A7;have HF:=Hd B7;clear hn C7 A7 B7 M F8;go_upto_region 8 with fail;have G0:V.v≠V.mb:=Z.vault.blk.ne_gmap Z.vault.bm;have E0:X≠V.mb:=B6.ne_gmap Z.vault.bm;have L0:∀W,But V.mb W3.drew W->∀i,W.cell? ⟨V.v,i,none⟩=(aV V)[i]? :=fun W o=>(Z.vault.blk.drew.but o G0).rule;have L1:∀W,But V.mb W3.drew W->W.cell? ⟨X,1,none⟩=some (.int .i64 (g:Int)):=fun W o=>(by rw [<-HG.out];exact (B6.drew.but o E0).cell rfl);have L2:∀W,But V.mb W3.drew W->(Instr.lookup 90 (.map (some V.mg)) (.int .i64 (g:Int)) false).run prog W= .ok (.slice sa n sc) W:=fun W o=>D4 W (o.2 V.mg Z.vault.gm.lt Z.vault.ge.2.2.2);have hu:IntKind.u64.wrap (n:Int)=(n:Int):=by
     simp only [IntKind.wrap,IntKind.bits,IntKind.signed];simp;omega
    unfold aV at L0;clear D4;refine cO V.mb (.step 0 (.step 1 (.step 2 (.step 4 (.step 5 (.step 6 (.step 7 (.step 8 (.step 9 (.step 10 (.step 11 (.step 12 (.step 13 (.step 3 (.step 14 (.step 15 (.step 16 (.step 17 (.step 18 (.step 19 .done)))))))))))))))))))) krA krA cdA ?_
    repeat refine txA ?_
    refine am rfl rfl rfA (fun K J=> ?_);go_wp2_with fail;have E1:aP W3.drew B r.d V:=Z.vault.old (VW _ _).drew;refine (yM W3.drew B r.d V E1 (by have:=A8.size;simp;omega) g EE).mono ?_;rintro e W4 ⟨bb,bl,rfl,G1,G2,B9⟩;go_wp2_with fail;refine J _ _ ⟨B9.size,fun x hx H3=>B9.block x hx H3⟩ ?_;clear J K L0 L1 L2;have G3:VL W3.drew B r V:=Z.old (VW _ _).drew;have G4:=G2.step G3;have A9:ik B w r V W4 r {V with bl:=bl}:=(ik.old h A8.drew).trans G4;have G5:Blk W4 X (af x hx).toArray 40:=(B9.block X B6.lt E0).trans B6;have G6:aj W4 ba (bj x):=aj.notMap (w:=W3.drew) C1.row E1.bm B9;have H4:Below B w W4:=A9.below h hB;have H5:=A9.turn.size
    repeat refine txA ?_
    refine am rfl rfl rfA (fun K J=> ?_);go_wp2_with fail;by_cases D5:65504<bn
    .have cs:=Cu bb n ba bn bc W4 D5 (by have:=C1.le_max;exact this);refine cs.mono ?_;rintro e t ⟨rfl,rfl⟩;go_wp2_with fail;refine J _ _ ⟨VU _,fun _ _ _=>rfl⟩ ?_;clear J K
     repeat refine txA ?_
     refine aq ?_;go_wp2_with fail;rw [HS.out];have G:¬jp V x=false:=(by unfold jp;rw [HM.out,HF.out];simp);have I:¬V.down=true:=(by rw [B2.out];simp);have C8:65504<(bj x).length:=(by rw [<-EQ.out];exact D5);have F:kG r.p V x=3:=(by unfold kG;rw [VV I,VV G,Vz C8]);exact ⟨r,_,by first|(rw [F];done)|(rw [F];rfl),A9,by unfold qs;rw [VV I,VV G,Vz C8],by rw [F];rfl,by unfold jA;rw [VV I,VV G,Vz C8],rfl,by unfold jB;rw [VV I,VV G,Vz C8];exact B2.out⟩
    .have cs:=Fo bb V.m g n ba bn bc (bj x) W4 G1 G6 EQ.out.symm oA (Xl EE dcA) (Xl H2 dcA);refine cs.mono ?_;clear cs;rintro e t ⟨qa,qc,rfl,G7,CK⟩;go_wp2_with fail;refine J _ _ ⟨CK.size,fun x hx _=>CK.block x hx⟩ ?_;clear J K
     repeat refine txA ?_
     refine aq ?_;have C2:ik B w r V t r {V with bl:=bl}:=A9.trans (ik.old A9.at' CK);have C9:=G5.old CK;have h5:=C2.at';have H6:=C2.turn.size;obtain ⟨L,hL⟩:=At (gO V.m V.l x);have G8:L=be8 (g:Int)++fM V.m g n (bj x):=by
      rw [hL];unfold gO;rw [HG.out,WN,HN.out]
     have HL:=Hd hL;have G9:=Hd G8;clear hL G8 G4 G2 G1 G6 G3 E1;have HU:(bj x).length<=65504:=(by rw [<-EQ.out];omega);go_upto_region 11 with fail;have L0:∀W,au (fun y=>y=V.v\/y=X) t.drew W->∀i,W.cell? ⟨V.v,i,none⟩=(aV V)[i]? :=fun W o i=>(VE (a:=⟨V.v,i,none⟩) (o.2 V.v (.inl rfl))).trans (h5.vault.blk.rule i);have L1:∀W,au (fun y=>y=V.v\/y=X) t.drew W->W.cell? ⟨X,1,none⟩=some (.int .i64 (g:Int)):=fun W o=>by
      rw [<-HG.out,VE (a:=⟨X,1,none⟩) (o.2 X (.inr rfl))];exact C9.cell rfl
     unfold aV at L0;have HV:=h5.vault.blk.lt;have HW:=C9.lt;refine ah false (au (fun y=>y=V.v\/y=X)) (au.refl _) (fun _ _ _ h1 h2=>au.trans h1 h2) (.step 0 (.step 1 (.step 2 (.step 3 (.step 4 (.step 5 (.step 7 (.step 6 (.step 8 (.step 9 (.step 10 (.step 11 (.step 12 (.step 13 .done)))))))))))))) krA krA cdA ?_
     repeat refine txA ?_
     refine am rfl rfl rfA (fun K J=> ?_);go_wp2_with fail;refine (Af (g:Int) _).mono ?_;rintro e W6 ⟨rfl,E2,E3⟩;go_wp2_with fail;refine J _ _ (au.below E3 fun y j=>by rcases j with rfl|rfl<;>assumption) ?_
     clear J K;have BY:Below t.heap.size t W6:=sP E3;refine am rfl rfl rfA (fun K J=> ?_);refine eF (.tmp 56) (.tmp 57) 22 rfl dU rfl E2 rfl (G7.old BY).row (by rw [lmA,dX];omega) (cV _) mxA oA (by have:=BY.size;simp;omega) ?_;intro a7 c7 W7 E4 E5;have H7:W6.drew.heap.size=W6.heap.size:=rfl;have B0:Below t.heap.size t W7:=E2.grown BY skA E5 BY.size;have F1:∀y,y<t.heap.size->W7.heap[y]? =W6.heap[y]? :=fun y j=>(B0.block y j).trans (BY.block y j).symm;refine J _ _ ⟨E5.size,fun y j=>F1 y (by rcases j with rfl|rfl<;>assumption)⟩ ?_
     clear J K;have h7:=h5.old B0;have HB:aj W7 a7 L:=by
      rw [G9.out];unfold aj;rw [VF];exact E4.row
     have F2:L.length=8+((bj x).length+32):=(by rw [G9.out,laA,an,dX]);have HC:L≠ []->∀ad,a7=some ad->¬(fp r ad.block\/dP V.R ad.block):=fun _ ad e f=>by
      have q1:=(E4.block_lt e).1;have q2:=(h5.dl.lt f).2;simp at q1;omega
     repeat refine txA ?_
     refine am rfl rfl rfA (fun K J=> ?_);go_wp2_with fail;have ca:=xV W7 B r V.R h7.dl (by have:=B0.size;omega) a7 _ c7 L HB F2 HC;unfold EM at ca;refine ca.mono ?_;clear ca;rintro e W8 ⟨rfl,r8,U,HD,E6,-,A3⟩;have DO:Blk W7 X (af x hx).toArray 40:=C9.old B0;have D0:¬(fp r X\/dP V.R X):=fun f=>(by have:=(h.dl.lt f).2;omega);have HH:¬(fp r V.v\/dP V.R V.v):=fun f=>f.elim (fun f=>h.apart V.v (.inr (.inl rfl)) f) (fun f=>h.vault.sepl V.v (.inl rfl) f);have HI:Blk W8 X (af x hx).toArray 40:=(A3.turn.block X DO.lt D0).trans DO;obtain ⟨A,hA⟩:=At (iH r.p V.R L);have F3:V.ds.length<=U.ls.length:=by
      have q:=h.vault.cnt;rw [E6];unfold mr;split
      .rw [laA];omega
      .exact q
     have HJ:ik B W7 r {V with bl:=bl} W8 r8 {V with bl:=bl,R:=U}:=iU.vault (V:={V with bl:=bl}) (V':={V with bl:=bl,R:=U}) A3 h7 rfl F3;have A4:=C2.trans ((ik.old h5 B0).trans HJ);have HX:Below B w W8:=A4.below h hB;have HK:rJ r.p V x=A:=(by unfold rJ;rw [<-HL.out,hA]);have F4:U.ls=if A=0 then V.R.ls++ [L] else V.R.ls:=(by rw [E6,hA];rfl);have F5:U.nm=V.R.nm:=A3.nm;rw [<-hA];generalize oU r.p V.R L=ai;have HA:=Hd hA;have D1:=Hd HK;have HO:=Hd F4;have E7:=Hd HD;have D2:=Hd F5;have G:¬jp V x=false:=(by unfold jp;rw [HM.out,HF.out];simp);have I:¬V.down=true:=(by rw [B2.out];simp);have nl:¬65504<(bj x).length:=oA;have N:=Hd G;have O:=Hd I;have T:=Hd nl;clear hA F4 HD F5 G I nl HK E6;go_wp2_with fail;refine J _ _ ⟨A3.turn.size,fun y j=> ?_⟩ ?_
     .rcases j with rfl|rfl
      .exact A3.turn.block _ (h7.vault.blk.lt) HH
      .exact A3.turn.block _ DO.lt D0
     clear J K L0 L1 HC HB F2
     repeat refine txA ?_
     refine aq ?_;have h8:=A4.at';have E8:=h8.vault.blk;have I7:W8.cell? ⟨V.v,1,none⟩=some (.pointer (some ⟨U.l,0,none⟩)):=E8.cell rfl;clear F1 H7 E5 E4 E2 E3 B0 BY G7 C1 B9 A9 C2 h5 h7 HJ F9 hg HH B1 B5 C0 C6 A8 HT bX B6 G5 C9 h1 Z H4 HX CK hu G0 E0 HV HW H5 H6 H1 D5 hz HU;have H8:=Hd D0;clear D0;by_cases Y:A=0;rotate_left 1
     .have H9:(A==0)=false:=(by simpa using Y);have A0:rJ r.p V x≠0:=(by rw [D1.out];exact Y);have F:kG r.p V x=A:=(by unfold kG;rw [VV O.out,VV N.out,VV T.out,Vz A0,D1.out]);have F6:∀(V':aR) (W':As),ik B w r V W' r8 V'->V'.l=V.l->V'.R=U->V'.down=decide (A≠3/\A≠100)->S (.returned (.int .i64 A)) W':=fun V' W' q1 q2 q3 q4=>by
       rw [HS.out];refine ⟨r8,V',by rw [F],q1,?_,by rw [F,VV Y];exact q2,?_,by rw [q3];exact D2.out,?_⟩
       .unfold qs;rw [VV O.out,VV N.out,VV T.out,Vz A0,E7.out,HL.out]
       .unfold jA;rw [VV O.out,VV N.out,VV T.out,Vz A0,q3,HO.out,VV Y]
       .unfold jB;rw [VV O.out,VV N.out,VV T.out,Vz A0,D1.out];exact q4
      have D6:=Hd F6;clear F6 F A0;by_cases A2:A=3
      .have tA3:(A==3)=true:=(by simpa using A2);have q:=Hd (D6.out _ _ A4 rfl rfl (by rw [VO (fun h=>h.1 A2)];exact B2.out));have ID:=Hd Y;have I8:=Hd A2;clear Y A2;go_wp2_with fail;exact q.out
      .have tA3:(A==3)=false:=(by simpa using A2);by_cases A6:A=100
       .have tA1:(A==100)=true:=(by simpa using A6);have q:=Hd (D6.out _ _ A4 rfl rfl (by rw [VO (fun h=>h.2 A6)];exact B2.out));have ID:=Hd Y;have I9:=Hd A6;clear Y A6 A2;go_wp2_with fail;exact q.out
       .have tA1:(A==100)=false:=(by simpa using A6);have J0:(A !=0)=true:=(by simpa using Y);have q:=Hd (D6.out _ _ (A4.trans (Ct h8)) rfl rfl (by rw [VK ⟨A2,A6⟩]));have IF:W8.cell? ⟨V.v,5,none⟩=some (.bool V.down):=E8.cell rfl;have J1:=E8.free;clear Y A2 A6;go_wp2_with fail;exact q.out
     .subst Y;have H9:((0:Int)==0)=true:=rfl;have A0:¬rJ r.p V x≠0:=(by rw [D1.out];simp);have F7:U.ls=V.R.ls++ [L]:=(by rw [HO.out,Vz rfl]);have cs:=Dp W8 B r8 U h8.dl (by have:=A4.turn.size;omega);obtain ⟨E,hE⟩:=At ((et r8.p U.nm).2);rw [<-hE] at cs;have HP:(wU r.p V x).2=E:=(by unfold wU;rw [hE,E7.out,D2.out,HL.out]);have HE:=Hd hE;have D3:=Hd HP;have A1:=Hd A0;have D7:=Hd F7;clear hE HP A0 F7;go_wp2_with fail;refine cs.mono ?_;clear cs;rintro e W9 ⟨rfl,r9,R9,E9,B3,-,D8⟩;have IN:ik B W8 r8 {V with bl:=bl,R:=U} W9 r9 {V with bl:=bl,R:=R9}:=iU.vault (V:={V with bl:=bl,R:=U}) (V':={V with bl:=bl,R:=R9}) D8 h8 rfl (by rw [B3];exact F3);have A5:=A4.trans IN;have h9:=A5.at';have I0:Blk W9 X (af x hx).toArray 40:=(D8.turn.block X HI.lt fun f=>by
       rcases A3.foot' X f with q|q
       .exact H8.out q
       .have:=DO.lt;omega).trans HI
      have C3:R9.nm=V.R.nm:=D8.nm.trans D2.out;have C4:r9.p=(wU r.p V x).1:=(by rw [E9];unfold wU;rw [E7.out,D2.out,HL.out]);have HQ:=h9.vault.blk;by_cases CW:E=0;rotate_left 1
      .have tE:(E !=0)=true:=(by simpa using CW);have F:kG r.p V x=E:=(by unfold kG;rw [VV O.out,VV N.out,VV T.out,VV A1.out,D3.out]);have q:S (.returned (.int .i64 E)) (W9.setCell ⟨V.v,5,none⟩ (.bool true)):=by
        rw [HS.out];refine ⟨r9,_,by rw [F],A5.trans (Ct h9),?_,by rw [F,VV CW];rfl,?_,C3,?_⟩
        .unfold qs;rw [VV O.out,VV N.out,VV T.out,VV A1.out,C4]
        .unfold jA;rw [VV O.out,VV N.out,VV T.out,VV A1.out,HL.out.symm];exact B3.trans D7.out
        .unfold jB;rw [VV O.out,VV N.out,VV T.out,VV A1.out,D3.out,VK CW]
       have Q:=Hd q;have IF:W9.cell? ⟨V.v,5,none⟩=some (.bool V.down):=HQ.cell rfl;have J2:=HQ.free;clear q F CW C4 C3 E9 B3;go_wp2_with fail;exact Q.out
      .subst CW;have tE:((0:Int) !=0)=false:=rfl;have F:kG r.p V x=0:=(by unfold kG;rw [VV O.out,VV N.out,VV T.out,VV A1.out,D3.out]);have I5:Below B w W9:=A5.below h hB;have ck:=uT W9 B r9.d {V with bl:=bl,R:=R9} h9.vault (Vd hB A5.turn.size) x hx (fun W' ht=>hd W' (A5.turn.trans (ht.mono fun y j=> .inr (.inr j)) A5.foot')) HM.out HF.out (by
        show V.ds.length<R9.ls.length;rw [B3,D7.out,laA,Xq];have:=h.vault.cnt;omega)
       rw [aD] at ck;have I1:=Hd C4;have HY:=Hd C3;have I2:=Hd B3;have F0:=Hd F;clear C4 C3 E9 B3 F;go_wp2_with (refine ap rfl 40 aZ (.tmp 3) rfl rfl I0 rfl ?_);refine ck.mono ?_;clear ck;intro e J3 I3;obtain ⟨I4,rfl,C5,HZ,-,-⟩:=I3;have H0:=A5.trans (C5.step h9);go_wp2_with fail;rw [HS.out];refine ⟨r9,I4,by first|(rw [F0.out];done)|(rw [F0.out];rfl),H0,?_,by rw [F0.out,Vz rfl];exact HZ,?_,by rw [C5.R];exact HY.out,?_⟩
       .unfold qs;rw [VV O.out,VV N.out,VV T.out,VV A1.out,I1.out]
       .unfold jA;rw [VV O.out,VV N.out,VV T.out,VV A1.out,HL.out.symm,C5.R];exact I2.out.trans D7.out
       .unfold jB;rw [VV O.out,VV N.out,VV T.out,VV A1.out,D3.out];exact C5.down.trans B2.out
end
section
open Go.RowKit
def fT:Le:=[109,97,115,116,101,114]
def xe:Le:=[111,116,104,101,114]
def vb1:Le:=[1,0,0,0,0,0,0,0,0,0,0,0,0,0,0,0,0,0,0,0,0,0,0,0,0,0,0,0,0,0,0,0,3,97,110,110,0,0,0,0,0,0,0,3,98,111,98,0,0,0,0,0,0,0,2,0,0,0,0,0,0,0,1,0,0,0,0,0,0,0,2,0,0,0,0,0,0,0,1,0,0,0,0,0,0,0,3,0,0,0,0,0,0,0,1,0,0,0,0,0,0,0,5]
def vck:Nat->BitVec 8:=ckB fT 0
def vcb (q:Nat):Nat->BitVec 8:=ctr (oS 0 0) q
theorem vk0:rk vck 0=lst [117#8,23#8,193#8,122#8,182#8,210#8,36#8,221#8,149#8,58#8,221#8,48#8,166#8,82#8,69#8,127#8]:=aL rfl dkA
theorem vrc0:rc 0=1#8:=rfl
theorem vrc1:rc 1=2#8:=by rw [rc,vrc0];decide+kernel
theorem vrc2:rc 2=4#8:=by rw [rc,vrc1];decide+kernel
theorem vrc3:rc 3=8#8:=by rw [rc,vrc2];decide+kernel
theorem vrc4:rc 4=16#8:=by rw [rc,vrc3];decide+kernel
theorem vrc5:rc 5=32#8:=by rw [rc,vrc4];decide+kernel
theorem vrc6:rc 6=64#8:=by rw [rc,vrc5];decide+kernel
theorem vrc7:rc 7=128#8:=by rw [rc,vrc6];decide+kernel
theorem vrc8:rc 8=27#8:=by rw [rc,vrc7];decide+kernel
theorem vrc9:rc 9=54#8:=by rw [rc,vrc8];decide+kernel
theorem vk1:rk vck 1=lst [116#8,121#8,19#8,94#8,194#8,171#8,55#8,131#8,87#8,145#8,234#8,179#8,241#8,195#8,175#8,204#8]:=by rw [rk,vk0,vrc0];exact aL rfl dkA
theorem vk2:rk vck 2=lst [88#8,0#8,88#8,255#8,154#8,171#8,111#8,124#8,205#8,58#8,133#8,207#8,60#8,249#8,42#8,3#8]:=by rw [rk,vk1,vrc1];exact aL rfl dkA
theorem vk3:rk vck 3=lst [197#8,229#8,35#8,20#8,95#8,78#8,76#8,104#8,146#8,116#8,201#8,167#8,174#8,141#8,227#8,164#8]:=by rw [rk,vk2,vrc2];exact aL rfl dkA
theorem vk4:rk vck 4=lst [144#8,244#8,106#8,240#8,207#8,186#8,38#8,152#8,93#8,206#8,239#8,63#8,243#8,67#8,12#8,155#8]:=by rw [rk,vk3,vrc3];exact aL rfl dkA
theorem vk5:rk vck 5=lst [154#8,10#8,126#8,253#8,85#8,176#8,88#8,101#8,8#8,126#8,183#8,90#8,251#8,61#8,187#8,193#8]:=by rw [rk,vk4,vrc4];exact aL rfl dkA
theorem vk6:rk vck 6=lst [157#8,224#8,6#8,242#8,200#8,80#8,94#8,151#8,192#8,46#8,233#8,205#8,59#8,19#8,82#8,12#8]:=by rw [rk,vk5,vrc5];exact aL rfl dkA
theorem vk7:rk vck 7=lst [160#8,224#8,248#8,16#8,104#8,176#8,166#8,135#8,168#8,158#8,79#8,74#8,147#8,141#8,29#8,70#8]:=by rw [rk,vk6,vrc6];exact aL rfl dkA
theorem vk8:rk vck 8=lst [125#8,68#8,162#8,204#8,21#8,244#8,4#8,75#8,189#8,106#8,75#8,1#8,46#8,231#8,86#8,71#8]:=by rw [rk,vk7,vrc7];exact aL rfl dkA
theorem vk9:rk vck 9=lst [242#8,245#8,2#8,253#8,231#8,1#8,6#8,182#8,90#8,107#8,77#8,183#8,116#8,140#8,27#8,240#8]:=by rw [rk,vk8,vrc8];exact aL rfl dkA
theorem IQ:rk vck 10=lst [160#8,90#8,142#8,111#8,71#8,91#8,136#8,217#8,29#8,48#8,197#8,110#8,105#8,188#8,222#8,158#8]:=by rw [rk,vk9,vrc9];exact aL rfl dkA
theorem PK:bt vck (vcb 0) 0=lst [117#8,23#8,193#8,122#8,182#8,210#8,36#8,221#8,149#8,58#8,221#8,48#8,166#8,82#8,69#8,127#8]:=by rw [bt,vk0];exact aL rfl dkA
theorem PJ:bt vck (vcb 0) 1=lst [130#8,31#8,207#8,41#8,113#8,150#8,80#8,16#8,186#8,242#8,104#8,44#8,128#8,66#8,27#8,110#8]:=by rw [bt,PK,rnd,vk1];exact aL rfl dkA
theorem PI:bt vck (vcb 0) 2=lst [15#8,120#8,235#8,58#8,77#8,78#8,244#8,245#8,10#8,217#8,23#8,225#8,196#8,43#8,18#8,62#8]:=by rw [bt,PJ,rnd,vk2];exact aL rfl dkA
theorem PH:bt vck (vcb 0) 3=lst [26#8,116#8,76#8,46#8,148#8,7#8,136#8,177#8,91#8,44#8,167#8,193#8,14#8,208#8,53#8,104#8]:=by rw [bt,PI,rnd,vk3];exact aL rfl dkA
theorem PG:bt vck (vcb 0) 4=lst [130#8,102#8,122#8,30#8,191#8,234#8,17#8,123#8,94#8,164#8,183#8,166#8,175#8,248#8,46#8,219#8]:=by rw [bt,PH,rnd,vk4];exact aL rfl dkA
theorem PF:bt vck (vcb 0) 5=lst [62#8,85#8,115#8,143#8,221#8,11#8,237#8,225#8,128#8,240#8,98#8,107#8,250#8,155#8,130#8,179#8]:=by rw [bt,PG,rnd,vk5];exact aL rfl dkA
theorem PE:bt vck (vcb 0) 6=lst [88#8,140#8,103#8,100#8,190#8,212#8,160#8,182#8,10#8,185#8,38#8,241#8,84#8,93#8,168#8,44#8]:=by rw [bt,PF,rnd,vk6];exact aL rfl dkA
theorem PD:bt vck (vcb 0) 7=lst [42#8,105#8,188#8,243#8,84#8,172#8,4#8,124#8,121#8,187#8,167#8,182#8,62#8,255#8,122#8,251#8]:=by rw [bt,PE,rnd,vk7];exact aL rfl dkA
theorem PC:bt vck (vcb 0) 8=lst [87#8,115#8,127#8,43#8,167#8,99#8,118#8,1#8,133#8,79#8,17#8,147#8,253#8,255#8,48#8,29#8]:=by rw [bt,PD,rnd,vk8];exact aL rfl dkA
theorem PA:bt vck (vcb 0) 9=lst [116#8,122#8,74#8,58#8,61#8,179#8,222#8,43#8,251#8,193#8,247#8,41#8,178#8,73#8,207#8,24#8]:=by rw [bt,PC,rnd,vk9];exact aL rfl dkA
theorem LU:bt vck (vcb 0) 10=lst [50#8,55#8,230#8,194#8,96#8,35#8,2#8,89#8,18#8,11#8,19#8,159#8,94#8,102#8,195#8,59#8]:=by rw [bt,PA,rnd,IQ];exact aL rfl dkA
theorem Pz:bt vck (vcb 1) 0=lst [117#8,23#8,193#8,122#8,182#8,210#8,36#8,221#8,149#8,58#8,221#8,48#8,166#8,82#8,69#8,126#8]:=by rw [bt,vk0];exact aL rfl dkA
theorem Py:bt vck (vcb 1) 1=lst [163#8,62#8,172#8,107#8,113#8,150#8,80#8,16#8,186#8,242#8,104#8,44#8,128#8,66#8,27#8,110#8]:=by rw [bt,Pz,rnd,vk1];exact aL rfl dkA
theorem Px:bt vck (vcb 1) 2=lst [61#8,97#8,242#8,17#8,151#8,148#8,129#8,90#8,17#8,244#8,33#8,250#8,82#8,207#8,96#8,76#8]:=by rw [bt,Py,rnd,vk2];exact aL rfl dkA
theorem Pw:bt vck (vcb 1) 3=lst [57#8,179#8,188#8,240#8,220#8,74#8,93#8,155#8,63#8,199#8,17#8,94#8,165#8,113#8,99#8,29#8]:=by rw [bt,Px,rnd,vk3];exact aL rfl dkA
theorem Pv:bt vck (vcb 1) 4=lst [243#8,104#8,70#8,193#8,254#8,49#8,4#8,55#8,56#8,93#8,207#8,78#8,92#8,19#8,23#8,0#8]:=by rw [bt,Pw,rnd,vk4];exact aL rfl dkA
theorem Pu:bt vck (vcb 1) 5=lst [59#8,116#8,30#8,97#8,100#8,224#8,220#8,255#8,65#8,247#8,204#8,91#8,125#8,223#8,58#8,246#8]:=by rw [bt,Pv,rnd,vk5];exact aL rfl dkA
theorem Ps:bt vck (vcb 1) 6=lst [115#8,68#8,85#8,225#8,153#8,183#8,68#8,127#8,0#8,10#8,42#8,147#8,204#8,123#8,99#8,112#8]:=by rw [bt,Pu,rnd,vk6];exact aL rfl dkA
theorem Pr:bt vck (vcb 1) 7=lst [241#8,67#8,252#8,116#8,5#8,126#8,209#8,217#8,35#8,114#8,131#8,141#8,239#8,1#8,4#8,56#8]:=by rw [bt,Ps,rnd,vk7];exact aL rfl dkA
theorem Pq:bt vck (vcb 1) 8=lst [193#8,48#8,58#8,37#8,99#8,128#8,125#8,123#8,240#8,74#8,53#8,205#8,198#8,19#8,8#8,163#8]:=by rw [bt,Pr,rnd,vk8];exact aL rfl dkA
theorem Pp:bt vck (vcb 1) 9=lst [210#8,167#8,158#8,58#8,100#8,34#8,10#8,56#8,127#8,167#8,196#8,135#8,73#8,151#8,146#8,173#8]:=by rw [bt,Pq,rnd,vk9];exact aL rfl dkA
theorem LS:bt vck (vcb 1) 10=lst [21#8,201#8,146#8,250#8,4#8,7#8,199#8,89#8,207#8,184#8,206#8,105#8,82#8,224#8,185#8,137#8]:=by rw [bt,Pp,rnd,IQ];exact aL rfl dkA
theorem Po:bt vck (vcb 2) 0=lst [117#8,23#8,193#8,122#8,182#8,210#8,36#8,221#8,149#8,58#8,221#8,48#8,166#8,82#8,69#8,125#8]:=by rw [bt,vk0];exact aL rfl dkA
theorem Pn:bt vck (vcb 2) 1=lst [175#8,50#8,184#8,115#8,113#8,150#8,80#8,16#8,186#8,242#8,104#8,44#8,128#8,66#8,27#8,110#8]:=by rw [bt,Po,rnd,vk1];exact aL rfl dkA
theorem Pm:bt vck (vcb 2) 2=lst [219#8,18#8,129#8,132#8,103#8,100#8,138#8,161#8,236#8,232#8,192#8,7#8,250#8,246#8,241#8,221#8]:=by rw [bt,Pn,rnd,vk2];exact aL rfl dkA
theorem Pl:bt vck (vcb 2) 3=lst [18#8,206#8,238#8,164#8,6#8,65#8,234#8,120#8,237#8,24#8,11#8,196#8,15#8,110#8,175#8,245#8]:=by rw [bt,Pm,rnd,vk3];exact aL rfl dkA
theorem Pk:bt vck (vcb 2) 4=lst [74#8,187#8,71#8,207#8,205#8,86#8,205#8,111#8,217#8,122#8,170#8,20#8,2#8,182#8,192#8,53#8]:=by rw [bt,Pl,rnd,vk4];exact aL rfl dkA
theorem Pj:bt vck (vcb 2) 5=lst [223#8,220#8,251#8,182#8,113#8,253#8,213#8,214#8,184#8,132#8,116#8,160#8,119#8,163#8,82#8,224#8]:=by rw [bt,Pk,rnd,vk5];exact aL rfl dkA
theorem Pi:bt vck (vcb 2) 6=lst [53#8,154#8,203#8,84#8,58#8,3#8,112#8,170#8,255#8,177#8,144#8,139#8,184#8,20#8,28#8,86#8]:=by rw [bt,Pj,rnd,vk6];exact aL rfl dkA
theorem Ph:bt vck (vcb 2) 7=lst [203#8,145#8,29#8,211#8,140#8,36#8,173#8,8#8,34#8,234#8,114#8,214#8,244#8,68#8,44#8,97#8]:=by rw [bt,Pi,rnd,vk7];exact aL rfl dkA
theorem Pg:bt vck (vcb 2) 8=lst [182#8,24#8,33#8,94#8,88#8,112#8,175#8,221#8,57#8,8#8,192#8,112#8,176#8,19#8,88#8,126#8]:=by rw [bt,Ph,rnd,vk8];exact aL rfl dkA
theorem Pf:bt vck (vcb 2) 9=lst [212#8,63#8,124#8,57#8,81#8,237#8,96#8,226#8,197#8,94#8,155#8,152#8,101#8,240#8,80#8,180#8]:=by rw [bt,Pg,rnd,vk9];exact aL rfl dkA
theorem LR:bt vck (vcb 2) 10=lst [232#8,15#8,154#8,226#8,150#8,3#8,219#8,203#8,187#8,188#8,213#8,246#8,36#8,201#8,14#8,216#8]:=by rw [bt,Pf,rnd,IQ];exact aL rfl dkA
theorem Pe:bt vck (vcb 3) 0=lst [117#8,23#8,193#8,122#8,182#8,210#8,36#8,221#8,149#8,58#8,221#8,48#8,166#8,82#8,69#8,124#8]:=by rw [bt,vk0];exact aL rfl dkA
theorem Pd:bt vck (vcb 3) 1=lst [64#8,221#8,146#8,182#8,113#8,150#8,80#8,16#8,186#8,242#8,104#8,44#8,128#8,66#8,27#8,110#8]:=by rw [bt,Pe,rnd,vk1];exact aL rfl dkA
theorem Pc:bt vck (vcb 3) 2=lst [59#8,98#8,241#8,20#8,166#8,165#8,210#8,56#8,207#8,141#8,134#8,36#8,199#8,41#8,19#8,63#8]:=by rw [bt,Pd,rnd,vk2];exact aL rfl dkA
theorem Pb:bt vck (vcb 3) 3=lst [33#8,178#8,208#8,129#8,119#8,173#8,218#8,203#8,207#8,80#8,182#8,40#8,95#8,246#8,164#8,134#8]:=by rw [bt,Pc,rnd,vk3];exact aL rfl dkA
theorem Pa:bt vck (vcb 3) 4=lst [223#8,174#8,82#8,191#8,142#8,62#8,6#8,158#8,251#8,79#8,230#8,182#8,76#8,47#8,6#8,217#8]:=by rw [bt,Pb,rnd,vk4];exact aL rfl dkA
theorem OZ:bt vck (vcb 3) 5=lst [203#8,87#8,10#8,18#8,151#8,3#8,3#8,181#8,34#8,80#8,176#8,72#8,191#8,56#8,122#8,173#8]:=by rw [bt,Pa,rnd,vk5];exact aL rfl dkA
theorem OY:bt vck (vcb 3) 6=lst [92#8,174#8,19#8,126#8,37#8,194#8,106#8,20#8,70#8,207#8,215#8,178#8,239#8,114#8,1#8,144#8]:=by rw [bt,OZ,rnd,vk6];exact aL rfl dkA
theorem OX:bt vck (vcb 3) 7=lst [53#8,146#8,43#8,37#8,28#8,247#8,229#8,205#8,91#8,57#8,186#8,118#8,52#8,176#8,123#8,180#8]:=by rw [bt,OY,rnd,vk7];exact aL rfl dkA
theorem OW:bt vck (vcb 3) 8=lst [139#8,136#8,35#8,240#8,30#8,16#8,137#8,185#8,177#8,51#8,176#8,61#8,46#8,41#8,224#8,137#8]:=by rw [bt,OX,rnd,vk8];exact aL rfl dkA
theorem OV:bt vck (vcb 3) 9=lst [141#8,210#8,210#8,194#8,48#8,90#8,225#8,1#8,85#8,206#8,150#8,219#8,193#8,251#8,210#8,142#8]:=by rw [bt,OW,rnd,vk9];exact aL rfl dkA
theorem LQ:bt vck (vcb 3) 10=lst [253#8,228#8,30#8,118#8,67#8,208#8,61#8,252#8,225#8,63#8,112#8,18#8,17#8,9#8,38#8,39#8]:=by rw [bt,OV,rnd,IQ];exact aL rfl dkA
theorem OU:bt vck (vcb 4) 0=lst [117#8,23#8,193#8,122#8,182#8,210#8,36#8,221#8,149#8,58#8,221#8,48#8,166#8,82#8,69#8,123#8]:=by rw [bt,vk0];exact aL rfl dkA
theorem OT:bt vck (vcb 4) 1=lst [113#8,236#8,193#8,212#8,113#8,150#8,80#8,16#8,186#8,242#8,104#8,44#8,128#8,66#8,27#8,110#8]:=by rw [bt,OU,rnd,vk1];exact aL rfl dkA
theorem OS:bt vck (vcb 4) 2=lst [116#8,200#8,91#8,241#8,160#8,163#8,216#8,52#8,248#8,212#8,232#8,19#8,214#8,55#8,28#8,48#8]:=by rw [bt,OT,rnd,vk2];exact aL rfl dkA
theorem OQ:bt vck (vcb 4) 3=lst [123#8,209#8,154#8,32#8,97#8,32#8,63#8,222#8,132#8,73#8,72#8,247#8,102#8,110#8,184#8,214#8]:=by rw [bt,OS,rnd,vk3];exact aL rfl dkA
theorem OP:bt vck (vcb 4) 4=lst [180#8,160#8,89#8,129#8,156#8,32#8,232#8,144#8,252#8,122#8,99#8,195#8,202#8,251#8,83#8,85#8]:=by rw [bt,OQ,rnd,vk4];exact aL rfl dkA
theorem OO:bt vck (vcb 4) 5=lst [94#8,24#8,182#8,222#8,102#8,225#8,137#8,51#8,201#8,246#8,37#8,149#8,157#8,10#8,112#8,122#8]:=by rw [bt,OP,rnd,vk5];exact aL rfl dkA
theorem OM:bt vck (vcb 4) 6=lst [219#8,200#8,173#8,114#8,36#8,9#8,170#8,235#8,69#8,44#8,145#8,5#8,230#8,212#8,138#8,176#8]:=by rw [bt,OO,rnd,vk6];exact aL rfl dkA
theorem OL:bt vck (vcb 4) 7=lst [172#8,36#8,107#8,149#8,169#8,166#8,221#8,82#8,208#8,45#8,120#8,236#8,112#8,76#8,133#8,93#8]:=by rw [bt,OM,rnd,vk7];exact aL rfl dkA
theorem OK:bt vck (vcb 4) 8=lst [216#8,14#8,160#8,100#8,102#8,4#8,68#8,62#8,89#8,201#8,236#8,199#8,217#8,76#8,225#8,196#8]:=by rw [bt,OL,rnd,vk8];exact aL rfl dkA
theorem OJ:bt vck (vcb 4) 9=lst [239#8,62#8,50#8,90#8,70#8,195#8,198#8,64#8,254#8,123#8,185#8,71#8,37#8,31#8,226#8,136#8]:=by rw [bt,OK,rnd,vk9];exact aL rfl dkA
theorem LO:bt vck (vcb 4) 10=lst [127#8,116#8,216#8,171#8,29#8,122#8,16#8,103#8,166#8,240#8,230#8,103#8,86#8,14#8,106#8,62#8]:=by rw [bt,OJ,rnd,IQ];exact aL rfl dkA
theorem OI:bt vck (vcb 5) 0=lst [117#8,23#8,193#8,122#8,182#8,210#8,36#8,221#8,149#8,58#8,221#8,48#8,166#8,82#8,69#8,122#8]:=by rw [bt,vk0];exact aL rfl dkA
theorem OH:bt vck (vcb 5) 1=lst [138#8,23#8,215#8,57#8,113#8,150#8,80#8,16#8,186#8,242#8,104#8,44#8,128#8,66#8,27#8,110#8]:=by rw [bt,OI,rnd,vk1];exact aL rfl dkA
theorem OG:bt vck (vcb 5) 2=lst [213#8,21#8,134#8,141#8,250#8,249#8,54#8,128#8,142#8,78#8,4#8,101#8,148#8,75#8,34#8,14#8]:=by rw [bt,OH,rnd,vk2];exact aL rfl dkA
theorem OF:bt vck (vcb 5) 3=lst [42#8,105#8,160#8,55#8,186#8,206#8,148#8,25#8,231#8,17#8,167#8,250#8,73#8,95#8,69#8,4#8]:=by rw [bt,OG,rnd,vk3];exact aL rfl dkA
theorem OE:bt vck (vcb 5) 4=lst [105#8,10#8,177#8,236#8,85#8,121#8,57#8,92#8,16#8,48#8,8#8,4#8,154#8,218#8,253#8,87#8]:=by rw [bt,OF,rnd,vk4];exact aL rfl dkA
theorem OD:bt vck (vcb 5) 5=lst [217#8,143#8,188#8,221#8,32#8,118#8,65#8,173#8,252#8,19#8,127#8,20#8,217#8,143#8,77#8,152#8]:=by rw [bt,OE,rnd,vk5];exact aL rfl dkA
theorem OC:bt vck (vcb 5) 6=lst [43#8,142#8,126#8,203#8,24#8,226#8,17#8,82#8,222#8,66#8,68#8,33#8,189#8,164#8,28#8,76#8]:=by rw [bt,OD,rnd,vk6];exact aL rfl dkA
theorem OB:bt vck (vcb 5) 7=lst [216#8,62#8,220#8,201#8,222#8,229#8,37#8,229#8,186#8,31#8,230#8,215#8,51#8,165#8,125#8,178#8]:=by rw [bt,OC,rnd,vk7];exact aL rfl dkA
theorem OA:bt vck (vcb 5) 8=lst [118#8,50#8,68#8,86#8,86#8,181#8,64#8,242#8,27#8,218#8,222#8,47#8,79#8,20#8,75#8,136#8]:=by rw [bt,OB,rnd,vk8];exact aL rfl dkA
theorem Oz:bt vck (vcb 5) 9=lst [63#8,159#8,130#8,238#8,101#8,97#8,85#8,227#8,152#8,143#8,174#8,181#8,30#8,64#8,145#8,103#8]:=by rw [bt,OA,rnd,vk9];exact aL rfl dkA
theorem LM:bt vck (vcb 5) 10=lst [213#8,181#8,106#8,234#8,10#8,40#8,9#8,241#8,91#8,57#8,214#8,127#8,27#8,103#8,34#8,75#8]:=by rw [bt,Oz,rnd,IQ];exact aL rfl dkA
theorem Oy:bt vck (vcb 6) 0=lst [117#8,23#8,193#8,122#8,182#8,210#8,36#8,221#8,149#8,58#8,221#8,48#8,166#8,82#8,69#8,121#8]:=by rw [bt,vk0];exact aL rfl dkA
theorem Ox:bt vck (vcb 6) 1=lst [230#8,123#8,99#8,225#8,113#8,150#8,80#8,16#8,186#8,242#8,104#8,44#8,128#8,66#8,27#8,110#8]:=by rw [bt,Oy,rnd,vk1];exact aL rfl dkA
theorem Ov:bt vck (vcb 6) 2=lst [46#8,229#8,118#8,134#8,16#8,19#8,19#8,79#8,123#8,74#8,245#8,144#8,252#8,242#8,243#8,223#8]:=by rw [bt,Ox,rnd,vk2];exact aL rfl dkA
theorem Ou:bt vck (vcb 6) 3=lst [88#8,129#8,1#8,251#8,248#8,96#8,134#8,126#8,236#8,144#8,134#8,102#8,184#8,115#8,208#8,11#8]:=by rw [bt,Ov,rnd,vk3];exact aL rfl dkA
theorem Ot:bt vck (vcb 6) 4=lst [64#8,194#8,37#8,140#8,146#8,164#8,246#8,85#8,223#8,114#8,88#8,120#8,72#8,200#8,177#8,1#8]:=by rw [bt,Ou,rnd,vk4];exact aL rfl dkA
theorem Oq:bt vck (vcb 6) 5=lst [69#8,83#8,110#8,61#8,167#8,88#8,112#8,244#8,207#8,150#8,160#8,215#8,206#8,95#8,151#8,51#8]:=by rw [bt,Ot,rnd,vk5];exact aL rfl dkA
theorem Oo:bt vck (vcb 6) 6=lst [220#8,162#8,135#8,87#8,116#8,147#8,240#8,37#8,165#8,36#8,83#8,125#8,69#8,164#8,132#8,42#8]:=by rw [bt,Oq,rnd,vk6];exact aL rfl dkA
theorem On:bt vck (vcb 6) 7=lst [192#8,12#8,87#8,97#8,9#8,244#8,81#8,245#8,87#8,12#8,111#8,96#8,114#8,231#8,80#8,167#8]:=by rw [bt,Oo,rnd,vk7];exact aL rfl dkA
theorem Om:bt vck (vcb 6) 8=lst [60#8,36#8,8#8,182#8,178#8,8#8,119#8,32#8,17#8,9#8,3#8,244#8,182#8,248#8,58#8,19#8]:=by rw [bt,On,rnd,vk8];exact aL rfl dkA
theorem Ol:bt vck (vcb 6) 9=lst [105#8,142#8,168#8,106#8,68#8,225#8,249#8,242#8,1#8,140#8,44#8,46#8,248#8,21#8,72#8,132#8]:=by rw [bt,Om,rnd,vk9];exact aL rfl dkA
theorem LL:bt vck (vcb 6) 10=lst [89#8,162#8,255#8,48#8,92#8,63#8,218#8,219#8,97#8,105#8,7#8,231#8,40#8,165#8,71#8,175#8]:=by rw [bt,Ol,rnd,IQ];exact aL rfl dkA
def vc1:Le:=[51,55,230,194,96,35,2,89,18,11,19,159,94,102,195,59,21,201,146,250,4,7,199,89,207,184,206,105,82,224,185,137,235,110,244,140,150,3,219,203,187,188,213,245,70,166,108,216,253,228,30,118,67,208,63,252,225,63,112,18,17,9,39,39,127,116,216,171,29,122,18,103,166,240,230,103,86,14,107,62,213,181,106,234,10,40,10,241,91,57,214,127,27,103,35,75,89,162,255,48,92,63,223]
def vks:List (BitVec 8):=[50#8,55#8,230#8,194#8,96#8,35#8,2#8,89#8,18#8,11#8,19#8,159#8,94#8,102#8,195#8,59#8,21#8,201#8,146#8,250#8,4#8,7#8,199#8,89#8,207#8,184#8,206#8,105#8,82#8,224#8,185#8,137#8,232#8,15#8,154#8,226#8,150#8,3#8,219#8,203#8,187#8,188#8,213#8,246#8,36#8,201#8,14#8,216#8,253#8,228#8,30#8,118#8,67#8,208#8,61#8,252#8,225#8,63#8,112#8,18#8,17#8,9#8,38#8,39#8,127#8,116#8,216#8,171#8,29#8,122#8,16#8,103#8,166#8,240#8,230#8,103#8,86#8,14#8,106#8,62#8,213#8,181#8,106#8,234#8,10#8,40#8,9#8,241#8,91#8,57#8,214#8,127#8,27#8,103#8,34#8,75#8,89#8,162#8,255#8,48#8,92#8,63#8,218#8,219#8,97#8,105#8,7#8,231#8,40#8,165#8,71#8,175#8]
theorem PM (i:Nat) (h:i<103):ksb (ckB fT 0) (oS 0 0) i=vks.getD i 0#8:=by
 have F:i/16=0\/i/16=1\/i/16=2\/i/16=3\/i/16=4\/i/16=5\/i/16=6:=oA;have G:i=16*(i/16)+i%16:=oA;have E:i%16<16:=oA;rw [ksb];generalize i%16=r at*;generalize i/16=q at*;subst G;rcases F with rfl|rfl|rfl|rfl|rfl|rfl|rfl
 .exact (Wv LU r).trans ((by decide+kernel:∀r,r<16->lst [50#8,55#8,230#8,194#8,96#8,35#8,2#8,89#8,18#8,11#8,19#8,159#8,94#8,102#8,195#8,59#8] r=vks.getD (16*0+r) 0#8) r E)
 .exact (Wv LS r).trans ((by decide+kernel:∀r,r<16->lst [21#8,201#8,146#8,250#8,4#8,7#8,199#8,89#8,207#8,184#8,206#8,105#8,82#8,224#8,185#8,137#8] r=vks.getD (16*1+r) 0#8) r E)
 .exact (Wv LR r).trans ((by decide+kernel:∀r,r<16->lst [232#8,15#8,154#8,226#8,150#8,3#8,219#8,203#8,187#8,188#8,213#8,246#8,36#8,201#8,14#8,216#8] r=vks.getD (16*2+r) 0#8) r E)
 .exact (Wv LQ r).trans ((by decide+kernel:∀r,r<16->lst [253#8,228#8,30#8,118#8,67#8,208#8,61#8,252#8,225#8,63#8,112#8,18#8,17#8,9#8,38#8,39#8] r=vks.getD (16*3+r) 0#8) r E)
 .exact (Wv LO r).trans ((by decide+kernel:∀r,r<16->lst [127#8,116#8,216#8,171#8,29#8,122#8,16#8,103#8,166#8,240#8,230#8,103#8,86#8,14#8,106#8,62#8] r=vks.getD (16*4+r) 0#8) r E)
 .exact (Wv LM r).trans ((by decide+kernel:∀r,r<16->lst [213#8,181#8,106#8,234#8,10#8,40#8,9#8,241#8,91#8,57#8,214#8,127#8,27#8,103#8,34#8,75#8] r=vks.getD (16*5+r) 0#8) r E)
 .exact (Wv LL r).trans ((by decide+kernel:∀r,r<16->lst [89#8,162#8,255#8,48#8,92#8,63#8,218#8,219#8,97#8,105#8,7#8,231#8,40#8,165#8,71#8,175#8] r=vks.getD (16*6+r) 0#8) r E)
theorem LV:stm (ckB fT 0) (oS 0 0) vb1=vc1:=by
 have e:(List.range 103).map (fun i=>(⟨(vb1.getD i 0).toBitVec^^^ksb (ckB fT 0) (oS 0 0) i⟩:UInt8))=(List.range 103).map (fun i=>(⟨(vb1.getD i 0).toBitVec^^^vks.getD i 0#8⟩:UInt8)):=by
  apply WQ;intro i E;rw [PM i (Wk.1 E)]
 show (List.range 103).map (fun i=>(⟨(vb1.getD i 0).toBitVec^^^ksb (ckB fT 0) (oS 0 0) i⟩:UInt8))=_;rw [e];decide+kernel
def vtk:Le:=[146,182,194,240,56,84,212,204,118,255,119,159,82,222,77,91,226,116,142,60,120,226,214,158,113,49,199,38,54,110,192,222]
def Oj:Le:=[210,23,92,134,84,18,110,108,122,230,167,82,18,124,43,188,174,25,207,70,231,65,42,226,91,253,215,146,76,175,197,252]
theorem v_tk:tkL fT 0=vtk:=by decide+kernel
theorem PL:tkL xe 0=Oj:=by decide+kernel
theorem LW:dgb (we vtk (eY 0++eY 0++vc1)) 0=253:=by decide+kernel
theorem IR:dgb (we Oj (eY 0++eY 0++vc1)) 0=188:=by decide+kernel
end
section
open Go.RowKit
theorem xf (m:Le) (g n:Nat) (b:Le) (h:b.length<=65504):fO m g n (fM m g n b)=(b,0):=by
 have E:(fM m g n b).length-32=(stm (ckB m g) (oS g n) b).length:=(by rw [dX,eM];omega);have F:(fM m g n b).take ((fM m g n b).length-32)=stm (ckB m g) (oS g n) b:=(by rw [E,fM,Yq]);have G:(fM m g n b).drop ((fM m g n b).length-32)=dgl (kp m g n (stm (ckB m g) (oS g n) b)):=(by rw [E,fM,Yh]);unfold fO;rw [F,G,Vz ⟨by rw [dX];omega,by rw [dX];omega,rfl⟩,Jc]
theorem lh (m:Le) (l:List ao) (x:ao):(gO m l x).length=(bj x).length+40:=by
 unfold gO;rw [laA,an,dX];omega
theorem zy (m:Le) (l:List ao) (x:ao) (E:OkD x):bp ⟨gO m l x,false⟩=(x.game,⟨fM m x.game.toNat (ofG l x.game).length (bj x),false⟩):=gH.back x.game _ false E.game
theorem Kl {l:List ao} {x:ao} (F:bz l x=true):0<=x.game/\x.game<=(aO l:Int):=by
 have h:=dI F;refine ⟨h.1,?_⟩;by_cases E:x.kind=1
 .have:=h.2.2.2 E;omega
 .have:=h.2.2.1 E;omega
theorem pT {m:Le} {l:List ao} {x:ao} (G:iE x=true) (E:bz l x=true) (F:OkD x) (I:(bj x).length<=65504):bG m l (gO m l x)=(x,true):=by
 have J:=Kl E;unfold bG;rw [zy m l x F];dsimp only;rw [VV soA,xf m _ _ _ I,VV skA,CL x F G];simp [E]
def iO (nm:bB) (b:Le) (s:Nat):aN:=⟨[⟨nm,b,s⟩],false,false,0,[]⟩
section
variable {nm:bB} {b l:Le} {s:Nat}
theorem ph:fF (iO nm b s) nm=some ⟨nm,b,s⟩:=by simp [fF,iO]
theorem zu:bN (iO nm b s) nm=(b,0):=ki rfl ph
theorem AL (h:b.length+l.length<=1048576):bw (iO nm b s) nm l=(iO nm (b++l) s,0):=by
 unfold bw mp;rw [ph,VV (by simp [iO])];dsimp only;rw [VV (by unfold fE;omega)];simp [dL,kF,BV,iO]
theorem uc:et (iO nm b s) nm=(iO nm b b.length,0):=by
 unfold et mp;rw [ph,VV (by simp [iO])];simp [dL,kF,BV,iO]
theorem Jy {k:Nat} (h:k<=b.length):jF (iO nm b s) nm (k:Int)=(iO nm (b.take k) k,0):=by
 unfold jF mp;rw [ph,VV (by simp [iO])];dsimp only;rw [VV oA];simp [kF,BV,iO]
theorem Fq {ls:List Le} (F:Lv ls) (G:ls.length<=4096):scan ju (aA ls)=(ls,[]):=by
 have E:=oo ju ls [] F (by rw [jD];exact G);have I:scan (ju-ls.length) []=([],[]):=ip (jd skA);rw [WO,I] at E;simpa using E
theorem ud {ls:List Le} (L:Lv ls) (M:ls.length<=4096):en (iO nm (aA ls) s) nm=0/\gN (iO nm (aA ls) s) nm=iO nm (aA ls) (aA ls).length/\dt (iO nm (aA ls) s) nm=(ls,[])/\iG (iO nm (aA ls) s) nm=0:=by
 have E:dt (iO nm (aA ls) s) nm=(ls,[]):=by
  unfold dt;rw [zu];exact Fq L M
 have F:cQ (iO nm (aA ls) s) nm=(iO nm (aA ls) s,0):=by
  unfold cQ;rw [zu];rfl
 have G:br (iO nm (aA ls) s) nm=(iO nm (aA ls) s,0):=by
  unfold br;rw [E,Vz (show ([]:Le).length=0 from rfl),F]
 have I:eo (iO nm (aA ls) s) nm=(iO nm (aA ls) (aA ls).length,0):=by
  unfold eo;rw [G];exact uc
 have J:en (iO nm (aA ls) s) nm=0:=by
  unfold en;rw [F,G,I];rfl
 refine ⟨J,?_,E,?_⟩
 .unfold gN;rw [F,G,I];rfl
 .unfold iG;rw [Vz J,E];rfl
end
theorem qFS {nm:bB} (M:dm nm=true):en wk0 nm=0/\gN wk0 nm=iO nm [] 0/\dt wk0 nm=([],[])/\iG wk0 nm=0:=by
 have I:bN wk0 nm=([],4):=rfl;have E:dt wk0 nm=([],[]):=by
  unfold dt;rw [I];exact ip (jd skA)
 have F:cQ wk0 nm=(iO nm [] 0,0):=by
  unfold cQ;rw [I,Vz rfl];unfold fd;rw [VV (by simp [wk0]),VV (by simp [M]),VV (by simp [fF,wk0]),VV (by simp [wk0])];rfl
 have G:br wk0 nm=(iO nm [] 0,0):=by
  unfold br;rw [E,Vz (show ([]:Le).length=0 from rfl),F]
 have J:eo wk0 nm=(iO nm [] 0,0):=by
  unfold eo;rw [G];exact uc
 have L:en wk0 nm=0:=by
  unfold en;rw [F,G,J];rfl
 refine ⟨L,?_,E,?_⟩
 .unfold gN;rw [F,G,J];rfl
 .unfold iG;rw [Vz L,E];rfl
theorem Df {nm:bB} (J:dm nm=true) (m:Le):kA wk0 nm m=0/\rD wk0 nm m=iO nm [] 0/\oJ wk0 nm m=[]/\pQ wk0 nm m=0/\rC wk0 nm m=[]:=by
 obtain ⟨G,L,E,M⟩:=qFS J;have I:oJ wk0 nm m=[]:=(by unfold oJ;rw [E];rfl);have F:eO wk0 nm m=true:=(by unfold eO;rw [I,E];rfl);refine ⟨?_,?_,I,?_,?_⟩
 .unfold kA;rw [G,VV skA,Vz F]
 .unfold rD;rw [G,VV skA,Vz F,L]
 .unfold pQ;rw [Vz F,M]
 .unfold rC;rw [E];simp
theorem Jw {nm:bB} {b:Le} {s:Nat} {V:aR} {x:ao} (J:V.R.nm=nm) (O:V.down=false) (S:iE x=true) (T:bz V.l x=true) (d:(bj x).length<=65000) (e:V.R.ls.length<4096) (f:b.length+(bj x).length+48<=1048576):
  kG (iO nm b s) V x=0/\qs (iO nm b s) V x=iO nm (b++bo (gO V.m V.l x)) (b++bo (gO V.m V.l x)).length/\jA (iO nm b s) V x=V.R.ls++ [gO V.m V.l x]/\jB (iO nm b s) V x=false:=by
 have Z:=lh V.m V.l x;have N:fi (gO V.m V.l x).length=0:=(by unfold fi;rw [VV oA,VV oA]);have M:=AL (nm:=nm) (b:=b) (s:=s) (l:=bo (gO V.m V.l x)) (by rw [bU];omega);have U:rJ (iO nm b s) V x=0:=by
  unfold rJ iH;rw [N,VV skA,VV oA,J,M]
 have Y:kq (iO nm b s) V.R (gO V.m V.l x)=iO nm (b++bo (gO V.m V.l x)) s:=by
  unfold kq;rw [N,VV skA,VV oA,J,M]
 have L:wU (iO nm b s) V x=(iO nm (b++bo (gO V.m V.l x)) (b++bo (gO V.m V.l x)).length,0):=by
  unfold wU;rw [Y,J];exact uc
 have E:¬V.down=true:=(by simp [O]);have F:¬jp V x=false:=(by unfold jp;simp [S,T]);have G:¬65504<(bj x).length:=oA;have I:¬rJ (iO nm b s) V x≠0:=(by simp [U]);refine ⟨?_,?_,?_,?_⟩
 .unfold kG;rw [VV E,VV F,VV G,VV I,L]
 .unfold qs;rw [VV E,VV F,VV G,VV I,L]
 .unfold jA;rw [VV E,VV F,VV G,VV I]
 .unfold jB;rw [VV E,VV F,VV G,VV I,L];rfl
def nmJ:bB:=⟨#[106,111,117,114,110,97,108]⟩
def wL:ao:=⟨1,0,0,emN,⟨#[97,110,110]⟩,⟨#[98,111,98]⟩,[1,2],[3],[5],dR⟩
def KO:ao:=⟨2,5,0,emN,emN,emN,[],[],[],dR⟩
def givA:bF:={dR with op:=4}
def AY:ao:=⟨2,0,0,emN,emN,emN,[],[],[],givA⟩
theorem okJ:dm nmJ=true:=dcA
theorem Dj:iE wL=true:=by decide+kernel
theorem Di:iE AY=true:=by decide+kernel
theorem DR:bz [] wL=true:=dcA
theorem Kq:bz [wL] KO=false:=dcA
theorem DQ:bz [wL] AY=true:=dcA
theorem zv:pi dR:=by
 refine ⟨?_,?_,?_,?_,?_,?_⟩
 all_goals first|(unfold wf8 ff;decide)|(unfold wf8;decide)|(unfold ff;decide)|(refine ⟨fun x hx=> ?_,?_⟩<;>first|(cases hx;done)|(unfold ff;decide)|decide)
theorem jP {l:List Int} (h:∀x∈l,0<=x/\x<=1000) (E:l.length<=1000):okL l:=by
 refine ⟨fun x hx=> ?_,gZ oA⟩;have:=h x hx;obtain ⟨n,rfl⟩:∃n:Nat,x=(n:Int):=⟨x.toNat,oA⟩;exact gZ oA
theorem oy:OkD wL:=by
 refine ⟨by unfold wf8;decide,by unfold ff;decide,by unfold ff;decide,by unfold rG;decide,by unfold rG;decide,by unfold rG;decide,jP dcA dcA,jP dcA dcA,jP dcA dcA,zv⟩
theorem Mt:OkD AY:=by
 have h:=zv;refine ⟨by unfold wf8;decide,by unfold ff;decide,by unfold ff;decide,by unfold rG;decide,by unfold rG;decide,by unfold rG;decide,jP dcA dcA,jP dcA dcA,jP dcA dcA,?_⟩;exact ⟨by unfold wf8;decide,h.2⟩
theorem lm:bj wL=vb1:=by decide+kernel
theorem up:(bj AY).length<=100:=by decide+kernel
def L1:Le:=gO fT [] wL
def L2:Le:=gO fT [wL] AY
theorem EN:L1.length=143:=by unfold L1;rw [lh,lm];rfl
theorem xN:bG xe [] L1=(kE,false):=by
 have E:fO xe 0 0 (fM fT 0 0 vb1)=([],60):=by
  have M:vb1.length=103:=rfl;have T:(fM fT 0 0 vb1).length=135:=(by rw [dX,M]);have G:(fM fT 0 0 vb1).length-32=(stm (ckB fT 0) (oS 0 0) vb1).length:=(by rw [dX,eM];omega);have N:(fM fT 0 0 vb1).take ((fM fT 0 0 vb1).length-32)=vc1:=(by rw [G,fM,Yq,LV]);have O:(fM fT 0 0 vb1).drop ((fM fT 0 0 vb1).length-32)=dgl (kp fT 0 0 vc1):=(by rw [G,fM,Yh,LV]);unfold fO;rw [N,O,VV];rintro ⟨_,_,h⟩;have F:=WS (fun l=>l.getD 0 0) h;unfold kp at F;rw [v_tk,PL] at F;have I:dgb (we vtk (eY 0++eY 0++vc1)) 0=dgb (we Oj (eY 0++eY 0++vc1)) 0:=(by simpa [dgl] using F);rw [LW,IR] at I;exact absurd I dcA
 have J:bp ⟨L1,false⟩=(0,⟨fM fT 0 0 vb1,false⟩):=by
  have h:=zy fT [] wL oy;rw [lm] at h;exact h
 generalize fM fT 0 0 vb1=S at E J;have L:fO xe (Int.toNat 0) (ofG ([]:List ao) 0).length S=([],60):=E;unfold bG;rw [J];dsimp only;rw [VV dcA]
 first
  |rw [L]
  |rw [E]
 rw [Vz dcA]
theorem NQ:L2.length=(bj AY).length+40:=lh _ _ _
theorem BO:Lv [L1,L2]:=by
 intro l E;have F:=EN;have G:=NQ;have I:=up;rcases Vk.1 E with rfl|E
 .omega
 .rw [VS.1 E];omega
theorem IM:fN fT [] [L1,L2]=[wL,AY]:=by
 have E:bG fT [] L1=(wL,true):=pT Dj DR oy (by rw [lm];decide);have F:bG fT [wL] L2=(AY,true):=pT Di DQ Mt (by have:=up;omega);rw [fN,E,Vz rfl,Wl,fN,F,Vz rfl];rfl
def wkD:aN:=iO nmJ (aA [L1,L2]) (aA [L1,L2]).length
theorem EX:kA wkD nmJ fT=0/\oJ wkD nmJ fT=[wL,AY]/\pQ wkD nmJ fT=0:=by
 obtain ⟨I,L,E,J⟩:=ud (nm:=nmJ) (s:=(aA [L1,L2]).length) BO dcA;have F:oJ wkD nmJ fT=[wL,AY]:=(by unfold oJ wkD;rw [E];exact IM);have G:eO wkD nmJ fT=true:=(by unfold eO;rw [F];unfold wkD;rw [E];rfl);refine ⟨?_,F,?_⟩
 .unfold kA;rw [G];unfold wkD;rw [I,VV skA,Vz rfl]
 .unfold pQ;rw [G,Vz rfl];exact J
theorem EW:kA wkD nmJ xe=0/\oJ wkD nmJ xe=[]/\0<pQ wkD nmJ xe:=by
 obtain ⟨J,L,E,N⟩:=ud (nm:=nmJ) (s:=(aA [L1,L2]).length) BO dcA;have F:oJ wkD nmJ xe=[]:=(by unfold oJ wkD;rw [E];show fN xe [] [L1,L2]=[];rw [fN,xN,VV skA]);have I:eO wkD nmJ xe=false:=(by unfold eO;rw [F];unfold wkD;rw [E];rfl);have G:jx wkD nmJ xe=0:=(by unfold jx;rw [F];rfl);have hcut:eh wkD nmJ xe=(iO nmJ [] 0,0):=by
  unfold eh;rw [G];show jF (gN (iO nmJ (aA [L1,L2]) (aA [L1,L2]).length) nmJ) nmJ ((0:Nat):Int)=_;rw [L,Jy (Vt _)];rfl
 obtain ⟨M,O,S,T⟩:=ud (nm:=nmJ) (s:=0) (ls:=[]) (fun x hx=>by cases hx) dcA;refine ⟨?_,F,?_⟩
 .unfold kA;rw [I,hcut];unfold wkD;rw [J,VV skA,VV skA,VV skA];exact M
 .unfold pQ;rw [I,G,VV skA];have e:(aA (dt wkD nmJ).1).length=151+(8+L2.length):=by
   unfold wkD;rw [E];show (aA [L1,L2]).length=_;simp [aA,bU,EN]
  omega
theorem EY:(lf (dz wkD []).1).1=wkD:=by
 unfold wkD iO dz lf lV iP;simp [iS]
end
section
open Go.RowKit Go.Maps
structure bW (w:As) (B:Nat) (a:Lt) (c:Nat) (ds:List (ao×aY)):Prop where
 row:Own w B 40 15 a ds.length c (eC ds)
 each:∀x∈ds,be w B x.1 x.2
structure iL (w:As) (a:Lt) (ds:List (ao×aY)):Prop where
 row:av w a (eC ds)
 each:∀x∈ds,dp w x.1 x.2
section
variable {w w':As} {B:Nat} {a:Lt} {c:Nat} {ds:List (ao×aY)}
theorem bW.at (h:bW w B a c ds):iL w a ds:=⟨h.row.row,fun x hx=>(h.each x hx).at⟩
theorem bW.old (h:bW w B a c ds) (E:Below w.heap.size w w'):bW w' B a c ds:=⟨h.row.old E,fun x hx=>(h.each x hx).old E⟩
theorem iL.old (h:iL w a ds) (E:Below w.heap.size w w'):iL w' a ds:=⟨h.row.below E,fun x hx=>(h.each x hx).old E⟩
theorem bW.nil (w:As) (B:Nat):bW w B none 0 []:=⟨Own.nil _ _ _ _,fun x hx=>by cases hx⟩
theorem aP.own {d:Nat} {V:aR} (h:aP w B d V):bW w B V.da V.dc V.ds:=⟨h.deeds,h.each⟩
theorem mw (ds:List (ao×aY)) (x:ao×aY):eC (ds++ [x])=eC ds++af x.1 x.2:=by simp [eC]
theorem iL.elem (h:iL w a ds) (k:Nat) (E:k<ds.length):∃b o,a=some ⟨b,o,none⟩/\b<w.heap.size/\∀j (F:j<(af ds[k].1 ds[k].2).length),w.cell? ⟨b,o+k*15+j,none⟩=some (af ds[k].1 ds[k].2)[j]:=
 av.elem (g:=fun x:ao×aY=>af x.1 x.2) (sz:=15) (fun _=>rfl) h.row oA k E
theorem bW.more {W E:As} {M:Lt} {c2 n:Nat} {p:ao} {h:aY} (N:bW W B a c ds) (U:be W B p h) (Y:(W.alloc (.cells (af p h).toArray 40)).grownBy E (Value.slice a n c).ownBlock)
  (Z:Own E B 40 15 M (n+1) c2 (eC ds++af p h)) (d:ds.length=n):bW E B M c2 (ds++ [(p,h)]):=by
 subst d;have S:∀y cs t,Blk W y cs t->t≠40->E.heap[y]? =W.heap[y]? :=fun y cs t F G=>by
  refine (Y.block y (by simp;have:=F.lt;omega) fun e=> ?_).trans (Vp _ _ _ F.lt);cases I:a with
  |none=>rw [I] at e;cases e
  |some ad=>
   rw [I] at e;simp [Value.ownBlock] at e;obtain ⟨_,_,J,T⟩:=N.row.block_lt I;subst e;exact F.ne T G rfl
 refine ⟨by rw [mw,laA];exact Z,fun x hx=> ?_⟩;have L:∀q g,be W B q g->be E B q g:=fun q g O=>O.keepB fun y f=>by
  obtain ⟨_,_,J,t,F,G⟩:=O.innerLt f;exact S y J t F (by rcases G with rfl|rfl<;>decide)
 rcases Ve.1 hx with hx|hx
 .exact L _ _ (N.each x hx)
 .rw [VS.1 hx];exact L _ _ U
end
theorem rS (w:As) (B d:Nat) (V:aR) (h:aP w B d V):
  Calls prog 26 #[.pointer (some ⟨V.v,0,none⟩)] w fun e w'=>e= .returned (.int .i64 (aO V.l:Int))/\Below w.heap.size w w':=by
 have E:=h.blk.rule;unfold aV at E;have F:∀ty,(Builtin.len_ #[90] ty #[.map (some V.mg)]).run prog w= .ok (.int .i64 (aO V.l:Int)) w:=fun ty=>h.size ty;go_enter func26,ntmps26;go_wp2_with fail;go_ret;exact ⟨rfl,cL⟩
def DdsR (w:As) (l:List ao) (n f:Nat) (out i:Value) (wr:As):Prop:=
 ∃(k:Nat) (done:List (ao×aY)) (a:Lt) (c:Nat),k+f=n/\i= .int .i64 (k:Int)/\out= .slice a k c/\done.length=k/\done.map Prod.fst=l.take k/\bW wr w.heap.size a c done/\Below w.heap.size w wr
theorem nz (w:As) (B d:Nat) (V:aR) (h:aP w B d V):
  Calls prog 21 #[.pointer (some ⟨V.v,0,none⟩)] w fun e w'=>∃a c ds,e= .returned (.slice a ds.length c)/\ds.map Prod.fst=V.l/\bW w' w.heap.size a c ds/\Below w.heap.size w w':=by
 have S:=h.blk.rule;unfold aV at S;have A6:=h.small.1;obtain ⟨n,T⟩:=At V.ds.length;rw [<-T] at S A6;have HN:=Hd T;clear T;go_enter func21,ntmps21;go_wp2_with fail;clear S;go_loopg [3,13] n (fun f A7 i wr=>DdsR w V.l n f A7 i wr)
 case atStart=>exact ⟨0,[],none,0,oA,rfl,rfl,rfl,rfl,bW.nil _ _,cL⟩
 case round=>
  obtain ⟨k,done,a,c,L,rfl,rfl,G,hl,ho,E⟩:=hrel;have U:=Hd L;clear L;by_cases A8:k<n
  .have hkl:k<V.ds.length:=(by rw [<-HN.out];exact A8);obtain ⟨b,o,y,B1,Y⟩:=((h.own.at).old E).elem k hkl;have A0:dp wr (V.ds[k]).1 (V.ds[k]).2:=((h.each _ (VQ hkl)).at).old E;obtain ⟨p,Z⟩:=At ((V.ds[k]).1);obtain ⟨g,hg⟩:=At ((V.ds[k]).2);rw [<-Z,<-hg] at Y A0;have HP:=Hd Z;clear Z hg;rw [y];go_upto_region 7 with (first|refine dZ rfl 40 aZ _ rfl rfl rfl Y rfl ?_|refine fh rfl 40 aZ (.tmp 5) (.tmp 16) rfl rfl rfl (Blk.new wr cM 40) rfl dcA rfl ?_);obtain ⟨X,I⟩:=At wr.heap.size;rw [<-I];refine ag (fun W=>Blk W X (af p g).toArray 40/\Below wr.heap.size wr W) ⟨by rw [I];exact (nG p g)▸(Blk.new wr cM 40).setRow _,by rw [I];exact ak ((VW _ wr).alloc (VU _) _) (VU _) _⟩ ?_;rintro W1 ⟨bX,F⟩;have B2:wr.heap.size<=X:=VM I.symm;clear I Y;have B3:=F.size;have B4:=E.size;have O:=ho.old F;have q:=O.row;rw [G] at q;have A1:=A0.old F;have j:=mi p g W1 A1;rw [aD] at j;clear q;go_wp2_with (first|refine ap rfl 40 aZ (.tmp 5) rfl rfl bX rfl ?_);refine j.mono ?_;clear j;rintro e W2 ⟨h',rfl,t,J⟩;rw [aD];have B0:(af p h').length=15:=rfl;have A2:=O.old J;have M:=A2.row;rw [G] at M;have B5:=J.size;have A4:=t.lower (B':=w.heap.size) oA;have N:Below w.heap.size w W2:=aa (aa E F) J;clear F J bX O A1 t;go_wp2_with (at_builtin;rw [jT];refine al rfl _ _ 23 rfl sG rfl (M.alloc _) rfl (av.new' W2 (af p h').toArray 40 _ rfl) rfA (by exact de _ rfl) mxA oA soA ?_);intro a3 c3 W3 A9 A3;have BY:=A2.more A4 A3 A9 G;have A5:Below w.heap.size w W3:=(M.alloc _).grown (N.alloc N.size _) skA A3 (by simp;have:=N.size;omega);go_wp2_with fail;rw [<-y];go_roundg (gk-1)
   case rel=>
    have L:=U.out;refine ⟨k+1,done++ [(p,h')],a3,c3,oA,gnA,rfl,by simp [G],?_,BY,A5⟩;rw [VF,hl,Vj (by rw [aR.len];exact hkl)];simp [aR.l,HP.out]
   case measure=>have L:=U.out;omega
  .have hkn':k=n:=(by have:=U.out;omega);subst hkn';go_wp2_with fail;go_ret;refine ⟨a,c,done,by subst G;rfl,?_,ho,E⟩;rw [hl,VZ];rw [aR.len,<-HN.out];exact VU _
theorem CU (V:aR) (g:Nat) (k:Nat) (E:k<(bf V.l (g:Int)).length):(bf V.l (g:Int))[k]<V.ds.length:=by
 rw [<-aR.len];exact xL V.l _ _ (VQ E)
def GmR (w:As) (l:List ao) (pl:List Nat) (n f:Nat) (out i:Value) (wr:As):Prop:=
 ∃(k:Nat) (done:List (ao×aY)) (a:Lt) (c:Nat),k+f=n/\i= .int .i64 (k:Int)/\out= .slice a k c/\done.length=k/\done.map Prod.fst=(pl.take k).filterMap (fun j=>l[j]?)/\bW wr w.heap.size a c done/\Below w.heap.size w wr
def sW (w:As) (V:aR) (n:Int) (e:Ending) (w':As):Prop:=
 if 0<=n/\n<(aO V.l:Int) then ∃a c ds,e= .returned (.tuple #[.slice a ds.length c,.int .i64 0])/\ds.map Prod.fst=ofG V.l n/\bW w' w.heap.size a c ds/\Below w.heap.size w w'
 else e= .returned (.tuple #[.slice none 0 0,.int .i64 4])/\Below w.heap.size w w'
theorem BR (w:As) (B d:Nat) (V:aR) (h:aP w B d V) (n:Int) (t:(Lit.int .i64 n).wf=true):
  Calls prog 27 #[.pointer (some ⟨V.v,0,none⟩),.int .i64 n] w (sW w V n):=by
 obtain ⟨S,y⟩:=At (sW w V n);rw [<-y];have HS:=Hd y;clear y;have hb:=h.blk.rule;unfold aV at hb;by_cases hin:0<=n/\n<(aO V.l:Int)
 .have hfin:∀a c ds w',ds.map Prod.fst=ofG V.l n->bW w' w.heap.size a c ds->Below w.heap.size w w'->S (.returned (.tuple #[.slice a ds.length c,.int .i64 0])) w':=fun a c ds w' q1 q2 q3=>by
   rw [HS.out];unfold sW;rw [Vz hin];exact ⟨a,c,ds,rfl,q1,q2,q3⟩
  have U:=Hd hfin;clear hfin;obtain ⟨g,hg⟩:∃g:Nat,n=(g:Int):=⟨n.toNat,oA⟩;subst hg;have A3:g<aO V.l:=oA;have N:=h.look A3 true;have A9:=(h.rows g A3).row;have BY:=h.small.2.2 (g:Int);obtain ⟨m,hm⟩:=At ((bf V.l (g:Int)).length);rw [<-hm] at N BY;have HM:=Hd hm;obtain ⟨dn,Z⟩:=At V.ds.length;rw [<-Z] at hb;have B1:=Hd Z;clear hm Z hin t;go_enter func27,ntmps27;go_wp2_with fail;clear N;go_loopg [8,26] m (fun f B2 i wr=>GmR w V.l (bf V.l (g:Int)) m f B2 i wr)
  case atStart=>exact ⟨0,[],none,0,oA,rfl,rfl,rfl,rfl,bW.nil _ _,cL⟩
  case round=>
   obtain ⟨k,done,a,c,J,rfl,rfl,L,hl,ho,E⟩:=hrel;have HF:=Hd J;clear J;by_cases B3:k<m
   .have hkp:k<(bf V.l (g:Int)).length:=(by rw [<-HM.out];exact B3);obtain ⟨j,M⟩:=At ((bf V.l (g:Int))[k]);have G:j<V.ds.length:=(by rw [M];exact CU V g k hkp);have CW:j<dn:=(by rw [B1.out];exact G);have A0:wr.cell? ⟨V.f g,0+k,none⟩=some (.int .i64 (j:Int)):=by
     have B4:k<(gD V.l g).length:=(by unfold gD;rw [lmA];exact hkp);obtain ⟨b',o',e,F⟩:=(A9.below E) k B4;cases e;rw [F];simp [gD,M]
    rw [VN] at A0;obtain ⟨b,o,B5,C0,F⟩:=((h.own.at).old E).elem j G;have A4:dp wr (V.ds[j]).1 (V.ds[j]).2:=((h.each _ (VQ G)).at).old E;have A1:V.l[j]? =some (V.ds[j]).1:=(by unfold aR.l;rw [ZE,VJ G];rfl);have O:((bf V.l (g:Int)).take (k+1)).filterMap (fun j=>V.l[j]?)=((bf V.l (g:Int)).take k).filterMap (fun j=>V.l[j]?)++ [(V.ds[j]).1]:=by
     rw [Vj hkp,List.filterMap_append,<-M];simp [A1]
    obtain ⟨p,hp⟩:=At ((V.ds[j]).1);obtain ⟨q,hq⟩:=At ((V.ds[j]).2);rw [<-hp,<-hq] at F A4;rw [<-hp] at O;have B6:=Hd O;clear hp hq A1 M O;have cc:=mi p q wr A4;rw [aD] at cc;have A5:∀i,wr.cell? ⟨V.v,i,none⟩= #[Value.slice V.ma V.m.length V.mc,.pointer (some ⟨V.R.l,0,none⟩),.slice V.da dn V.dc,.map (some V.mg),.map (some V.mb),.bool V.down][i]? :=fun i=>(E.cell (p:=⟨V.v,i,none⟩) h.blk.lt).trans (hb i);rw [B5] at A5;go_wp2_with (refine dZ rfl 40 aZ _ rfl rfl rfl F rfl ?_);refine cc.mono ?_;clear cc;rintro e W2 ⟨h',rfl,A2,I⟩;rw [aD];have CK:(af p h').length=15:=rfl;have A6:=ho.old I;have T:=A6.row;rw [L] at T;have C1:=I.size;have C2:=E.size;have A8:=A2.lower (B':=w.heap.size) oA;have Y:Below w.heap.size w W2:=aa E I;clear I A2 A5 F A0;go_wp2_with (at_builtin;rw [jT];refine al rfl _ _ 23 rfl sG rfl (T.alloc _) rfl (av.new' W2 (af p h').toArray 40 _ rfl) rfA (by exact de _ rfl) mxA oA soA ?_);intro a3 c3 W3 B7 A7;have B9:=A6.more A8 A7 B7 L;have B0:Below w.heap.size w W3:=(T.alloc _).grown (Y.alloc Y.size _) skA A7 (by simp;have:=Y.size;omega);go_wp2_with fail;go_roundg (gk-1)
    case rel=>
     have J:=HF.out;refine ⟨k+1,done++ [(p,h')],a3,c3,oA,gnA,rfl,by simp [L],?_,B9,B0⟩;rw [VF,hl,B6.out];rfl
    case measure=>have J:=HF.out;omega
   .have hkm':k=m:=(by have:=HF.out;omega);subst hkm';have q:=U.out a c done wr (by
     rw [hl,VZ (by rw [<-HM.out];exact VU _)];exact vD V.l _) ho E
    rw [L] at q;have Q:=Hd q;clear q;go_wp2_with fail;exact Q.out
 .have hfin:∀w',Below w.heap.size w w'->S (.returned (.tuple #[.slice none 0 0,.int .i64 4])) w':=fun w' q3=>by
   rw [HS.out];unfold sW;rw [VV hin];exact ⟨rfl,q3⟩
  have U:=Hd hfin;have N:=h.look_no t hin true;have C3:=Hd hin;clear hfin hin t;go_enter func27,ntmps27;go_wp2_with fail;exact U.out _ (VW _ _)
end
section
open Go.RowKit Go.Shelf Go.Maps
attribute [local go_sem] Oper.semAt_some
theorem pK {G:Fence} {n:Nat} {P:Program} {E:Array Oper} {Q:Exit->Act->World->Prop} {rest:List Oper} {a:Act} {W:As} (F:World->Prop) (J:F W) (h:∀I,F I->wpListIn G n P E Q rest a I):wpListIn G n P E Q rest a W:=h W J
theorem lQ:∀ls:List Le,(∀x∈ls,x.length<=65536)->(aA ls).length<=ls.length*65544
 | [],_=>by simp [aA]
 |x::r,h=>by
  have F:=lQ r fun y E=>h y (by simp [E]);have G:=h x skA;rw [show aA (x::r)=bo x++aA r by simp [aA],laA,bU,VC,XV];omega
theorem vm (m:Le):∀(r:List Le) (l:List ao),∃t,fN m l r=l++t
 | [],l=>⟨[],by simp [fN]⟩
 |x::r,l=>by
  rw [fN];split
  .obtain ⟨t,E⟩:=vm m r (l++ [(bG m l x).1]);exact ⟨(bG m l x).1::t,by rw [E];simp⟩
  .exact ⟨[],skA⟩
structure Lh (T:Nat) (x:ao) (hx:aY) (W1 W:As):Prop where
 blk:Blk W T (af x hx).toArray 40
 below:Below W1.heap.size W1 W
def pF (B:Nat) (w:As) (r:aG) (nm:bB) (m:Le) (e:Ending) (w':As):Prop:=
 ∃r',r'.p=rD r.p nm m/\bL B w r w' r'/\
  ((kA r.p nm m≠0/\e= .returned (.tuple #[.pointer none,.int .i64 0,.int .i64 (kA r.p nm m)]))\/
   (kA r.p nm m=0/\∃V,e= .returned (.tuple #[.pointer (some ⟨V.v,0,none⟩),.int .i64 (pQ r.p nm m:Int),.int .i64 0])/\VL w' B r' V/\V.m=m/\V.l=oJ r.p nm m/\V.R.ls=rC r.p nm m/\V.R.nm=nm/\V.down=false/\∀x,dP V.R x\/ej V x->w.heap.size<=x))
theorem mI (w:As) (B:Nat) (r:aG) (nm:bB) (h:aK w B r) (hB:B<=w.heap.size) (hs:nm.size<=maxLen) (ma:Lt) (mn mc:Nat) (m:Le) (K5:aj w ma m) (HT:m.length=mn) (K6:mn<=1000000) (K7:m≠ []->∀ad,ma=some ad->¬fp r ad.block):
  Calls prog 11 #[.pointer (some ⟨r.d,0,none⟩),.string nm,.slice ma mn mc] w (pF B w r nm m):=by
 obtain ⟨S,hS⟩:=At (pF B w r nm m);rw [<-hS];have HS:=Hd hS;clear hS;have HU:=Hd HT;clear HT;refine (YD (n:=3)).1 ?_;have h1:1<=3:=oA;refine callsIn_of_wp_marks func11 rfl trivial (wpIn_mono ?_ vP) rfl;refine wpIn_wide.2 ?_;simp only [ntmps11,List.size_toArray,VC,Xz,Nat.reduceAdd,Nat.reduceSub,Array.replicate_succ,Array.replicate_zero,List.push_toArray,List.append_toArray,Wl,Xf];go_upto_region 1 with fail;obtain ⟨P,hP⟩:=At w.heap.size;rw [<-hP];refine ag (fun W=>Blk W P #[.pointer none] 28/\Below w.heap.size w W) ⟨by rw [hP];exact Blk.new _ _ _,cL⟩ ?_;rintro W1 ⟨bP,B2⟩;have D0:w.heap.size<=P:=VM hP.symm;clear hP;have K8:=h.old B2;go_step3;go_wp2_with fail;refine (vV W1 B r nm K8 (Vd hB B2.size) hs).mono ?_;rintro e M ⟨N,D1,A6,E0⟩;have E9:¬fp r P:=fun hf=>(by have:=(h.lt hf).2;omega);have D2:Blk M P #[.pointer none] 28:=(A6.turn.block P bP.lt E9).trans bP;have A0:bL B w r M N:=⟨(aJ.of_below (F:=fp r) B2).trans A6.turn fun _ q=> .inl q,A6.at',fun x hx=>by
  rcases A6.foot' x hx with q|q
  .exact .inl q
  .exact .inr (Vd B2.size q),A6.d⟩
 rcases E0 with ⟨he,rfl⟩|⟨he,R,rfl,HV,HW,HY,K9,D3⟩
 .have e1:kA r.p nm m=en r.p nm:=(by unfold kA;rw [Vz he]);have e2:rD r.p nm m=gN r.p nm:=(by unfold rD;rw [Vz he]);have HE:=Hd e1;have HD:=Hd e2;have te:(en r.p nm !=0)=true:=(by simpa using he);generalize en r.p nm=oe at*;have fP:=D2.free;have cP:M.cell? ⟨P,0,none⟩=some (.pointer none):=D2.cell rfl;go_wp2_with fail;have cx:(M.setCell ⟨P,0,none⟩ (.pointer none)).cell? ⟨P,0,none⟩=some (.pointer none):=(D2.set 0 (.pointer none)).cell rfl;rw [Wq];refine ⟨.tuple #[.pointer none,.int .i64 0,.int .i64 oe],?_,?_⟩
  .simp [results,Tryz.f11,go_sem,cx]
  .rw [HS.out];refine ⟨N,by rw [D1,HD.out],⟨A0.turn.setCell (x:=⟨P,0,none⟩) (.inr D0) _,A0.at'.keep fun x hx=>Vq M ⟨P,0,none⟩ x _ fun e=> ?_,A0.foot',A0.d⟩,.inl ⟨by rw [HE.out];exact he,by rw [HE.out]⟩⟩;subst e;rcases A6.foot' _ hx with q|q
   .exact E9 q
   .have:=bP.lt;omega
 have D4:Hid (en r.p nm=0):=Hd he;have B3:=Hd HY;have LA:=Hd HW;clear HY HW K9 he;have LB:mn<=140737488351232:=oA;have J2:aj M ma m:=by
  intro i hi;obtain ⟨b,o,e,hc⟩:=K5 i hi;refine ⟨b,o,e,?_⟩;have LN:=Vx w _ hc;have LP:m≠ []:=fun e=>(by rw [e] at hi;simp at hi);rw [VE (a:=⟨b,o+i,none⟩) (A0.turn.block b LN (by have:=K7 LP _ e;exact this))];exact hc
 have N6:= @run_makeMap prog;have cm:=jU ma mn mc m M J2 HU.out LB;go_wp2_with fail;refine cm.mono ?_;clear cm;rintro e I ⟨ka,kc,rfl,E1,B9⟩;have F0:=D2.old B9;have fP:=F0.free;have C8:∀o1 o2 o3,Blk (((I.alloc o1).alloc o2).alloc o3) P #[.pointer none] 28:=fun o1 o2 o3=>((F0.alloc o1).alloc o2).alloc o3;have LX:=fun o1 o2 o3=>(C8 o1 o2 o3).free;have cP:∀o1 o2 o3,(((I.alloc o1).alloc o2).alloc o3).cell? ⟨P,0,none⟩=some (.pointer none):=fun o1 o2 o3=>(C8 o1 o2 o3).cell rfl;go_upto_region 5 with fail;have HG:=HV.old B9;have J3:B<=I.heap.size:=(by have:=B2.size;have:=A6.turn.size;have:=B9.size;omega);have HZ:∀ad,ka=some ad->M.heap.size<=ad.block:=fun ad e=>(E1.block_lt e).1;have H0:=Dg HG J3 HU.out K6 E1 (by have:=B2.size;have:=A6.turn.size;omega) (fun ad e hf=>by have:=HZ ad e;have:=(HV.lt hf).2;omega);have N7:=bP.lt;have N1:=A6.turn.size;have N2:=B9.size;have N3:=B2.size;have F1:∀x,ej (jb (I.heap.size+1+1) ka kc m R I.heap.size (I.heap.size+1)) x->M.heap.size<=x:=by
  intro x hx;rcases hx with rfl|⟨ad,ha,rfl⟩|⟨ad,ha,rfl⟩|⟨y,hy,hi⟩|rfl|rfl|⟨g,hg,rfl⟩|⟨y,hy,rfl⟩
  .simp [jb];omega
  .exact HZ ad ha
  .cases ha
  .cases hy
  .simp [jb];omega
  .simp [jb];omega
  .exact absurd hg (Xu _)
  .cases hy
 have D5:∀x,iT N (jb (I.heap.size+1+1) ka kc m R I.heap.size (I.heap.size+1)) x->(fp r x\/w.heap.size<=x)/\x≠P:=by
  intro x hx;rcases hx with hx|hx|hx
  .refine ⟨A0.foot' x hx,?_⟩;rintro rfl;rcases A6.foot' _ hx with q|q
   .exact E9 q
   .omega
  .have:=D3 x hx;exact ⟨.inr oA,oA⟩
  .have:=F1 x hx;exact ⟨.inr oA,oA⟩
 have HH:aJ (fp r) w I:=A0.turn.trans (aJ.of_below (F:=fp r) B9) fun _ q=> .inl q;have H1:Below I.heap.size I (((I.alloc (.map #[] 0)).alloc (.map #[] 0)).alloc (.cells #[.slice ka mn kc,.pointer (some ⟨R.l,0,none⟩),.slice none 0 0,.map (some I.heap.size),.map (some (I.heap.size+1)),.bool false] 93)):=(((VW _ _).alloc (VU _) _).alloc skA _).alloc soA _;have N8:(((I.alloc (.map #[] 0)).alloc (.map #[] 0)).alloc (.cells #[.slice ka mn kc,.pointer (some ⟨R.l,0,none⟩),.slice none 0 0,.map (some I.heap.size),.map (some (I.heap.size+1)),.bool false] 93)).heap.size=I.heap.size+3:=skA;have H2:=C8 (.map #[] 0) (.map #[] 0) (.cells #[.slice ka mn kc,.pointer (some ⟨R.l,0,none⟩),.slice none 0 0,.map (some I.heap.size),.map (some (I.heap.size+1)),.bool false] 93);generalize ((I.alloc (.map #[] 0)).alloc (.map #[] 0)).alloc (.cells #[.slice ka mn kc,.pointer (some ⟨R.l,0,none⟩),.slice none 0 0,.map (some I.heap.size),.map (some (I.heap.size+1)),.bool false] 93)=W4 at*;generalize G:jb (I.heap.size+1+1) ka kc m R I.heap.size (I.heap.size+1)=V at*;have eV:V.v=I.heap.size+1+1/\V.R=R/\V.m=m/\V.down=false/\V.l=[]/\V.mg=I.heap.size/\V.mb=I.heap.size+1:=(by rw [<-G];exact ⟨rfl,rfl,rfl,rfl,rfl,rfl,rfl⟩);rw [show (.pointer (some ⟨I.heap.size+1+1,0,none⟩):Value)= .pointer (some ⟨V.v,0,none⟩) by rw [eV.1]];refine ag (fun W=>VL W B N V/\Blk W P #[.pointer (some ⟨V.v,0,none⟩)] 28/\aJ (fp r) w W/\W4.heap.size<=W.heap.size) ⟨H0.keep fun x hx=>Vq W4 ⟨P,0,none⟩ x _ (D5 x hx).2,H2.set 0 _,(HH.trans (aJ.of_below (F:=fp r) H1) fun _ q=> .inl q).setCell (x:=⟨P,0,none⟩) (.inr D0) _,by simp [World.setCell]⟩ ?_;rintro W5 ⟨B6,D6,H3,L3⟩;clear H0 B9 E1 F0 C8 LX cP fP H2 H1 HG HH;go_upto_region 6 with fail;obtain ⟨A,hA⟩:=At W5.heap.size;obtain ⟨H,hH⟩:=At (W5.heap.size+1);rw [<-hH,<-hA];refine ag (fun W=>Blk W A #[.int .i64 0] 3/\Blk W H #[.bool true] 4/\Below W5.heap.size W5 W/\H<W.heap.size) ⟨by rw [hA];exact Blk.new2 _ _ _ _,by rw [hH];exact Blk.new2' _ _ _ _,cL,by rw [hH];simp⟩ ?_;rintro W6 ⟨bA,bH,A7,L4⟩;have L5:=bA.lt;have N9:∀(fn:Fn) (first cap:AS) (w:As),(binOp .eql 95 (.func fn first cap) .nilFunc).run prog w= .ok (.bool false) w:=fun fn first cap w=>rfA;go_wp2_with fail;go_step3;go_wp2_with fail;refine (GA W6 _).mono ?_;rintro e f ⟨rfl,F2⟩;obtain ⟨X,hX⟩:=At W6.heap.size
 have bX:Blk f X #[.pointer (some ⟨R.l,0,none⟩)] 86:=(by rw [F2,hX];exact Blk.new _ _ _);have A1:Below W6.heap.size W6 f:=(by rw [F2];exact (VW _ _).alloc (VU _) _);have H4:=bX.lt;rw [<-hX];have HI:∀x,iT N V x->x<W5.heap.size:=fun x hx=>(B6.lt hx).2;have F3:OpS B w r N R m P A H X f.heap.size R.ls true 0 0 V f:=⟨(B6.old A7).old A1,(D6.old A7).old A1,(bA.old A1),bH.old A1,⟨eV.2.1,eV.2.2.1,eV.2.2.2.1⟩,
  ⟨((B6.old A7).old A1).disk.map.lt,((B6.old A7).old A1).vault.gm.lt,((B6.old A7).old A1).vault.bm.lt⟩,fun x hx=>(D5 x hx).1,fun x hx=>by have:=F1 x hx;omega,
  fun x hx=>by have q1:=HI x hx;have q2:=(D5 x hx).2;have q3:=A7.size;refine ⟨q2,?_,?_,?_⟩<;>omega,by rw [eV.2.2.2.2.1];rfl,Hd (by rw [eV.2.2.2.2.1];rfl),
  (H3.trans (aJ.of_below (F:=fp r) A7) fun _ q=> .inl q).trans (aJ.of_below (F:=fp r) A1) fun _ q=> .inl q,VU _,by have:=D6.lt;have:=A7.size;have:=A1.size;omega,by have:=A1.size;omega,by have:=A1.size;omega,H4⟩
 have cX:f.cell? ⟨X,0,none⟩=some (.pointer (some ⟨R.l,0,none⟩)):=bX.cell rfl;have B4:w.heap.size<=A/\w.heap.size<=H/\A≠P/\A≠H/\H≠P/\X≠A:=(by have:=D6.lt;omega);have C1:lL f B N.d R:=(by have:=F3.vl.vault.log;rw [eV.2.1] at this;exact this);have F4:w.heap.size<=f.heap.size:=F3.turn.size;clear hX bA bH A7 L4 hA hH B6 D6 H3 L3 F2 A1 D5 F1 HI L5;go_wp2_with fail;refine (wpIn_wide (n:=3)).1 ?_;refine mf rfl h1 (gf:=107) (lb:= #[.pointer (some ⟨X,0,none⟩)]) rfl trivial (enters_of func107 krA rfl)
  (Ed 2 oA B N.d R X f C1 cX) ?hM (fun h h'=>h.trans h') (fun W l o o' hl _ _ _=>au.putObj o' fun x hx=>by
   rcases hx with hx|hx
   .have:=(C1.lt hx).2;omega
   .omega) (VW _ _) (fun _=>rfl)
  (fun J W=>∃V,OpS B w r N R m P A H X f.heap.size R.ls true J.length J.length V W)
  (fun c J W=>c= .exit 0/\∃k,Hid (k<R.ls.length/\(fN m [] R.ls).length=k)/\∃V,OpS B w r N R m P A H X f.heap.size R.ls false k k V W)
  (OpS.own B w r N R m P A H X f.heap.size R.ls true F4 List.length)
  (fun c s Y Z row hs hg hr=>⟨hs.1,by
   obtain ⟨-,k,hk,hv⟩:=hs;exact ⟨k,hk,OpS.own B w r N R m P A H X f.heap.size R.ls false F4 (fun _:Unit=>k) () Y Z row hv hg hr⟩⟩) ⟨V,F3⟩
  ?a1 ?assign ?body ?done ?stop
 case hM=>
  rintro ⟨J,x⟩ Y Z row ⟨e,hx,a,c,e2,hb,hc⟩ hg hr;refine ⟨e,hx,a,c,e2,fun i hi=> ?_,hc⟩;obtain ⟨b1,o1,e3,L6⟩:=hb i hi;exact ⟨b1,o1,e3,cell_kept L6 hg (fun r e=>(hr r e).2)⟩
 case assign=>
  intro l x W K j;unfold yg
  gi_wp2;exact j
 case body=>
  rintro l J ⟨i,v⟩ W ⟨V,G⟩ ⟨ei,hi,a,c,ev,hb,hc⟩;dsimp only at ei hi ev hb hc;subst ev ei;have D7:J.length<R.ls.length:=hi;have I7:R.ls[J.length].length<=65536:=C1.lens _ (VQ D7);have L7:B<=W.heap.size:=(by have:=G.turn.size;omega);have cP:W.cell? ⟨P,0,none⟩=some (.pointer (some ⟨V.v,0,none⟩)):=G.ptr.cell rfl;have cu:=xd W B N.d V G.vl.vault L7 a R.ls[J.length].length c R.ls[J.length] hb rfl hc I7
  gi_wp2_with (refine ⟨trivial,?_⟩;gi_at_call 50;refine (YD.2 cu).mono ?_);intro e W1 F5;unfold Iu at F5;have H5:∀U:ao×Bool,∃x ok,U.1=x/\U.2=ok:=fun U=>⟨_,_,rfl,rfl⟩;obtain ⟨x,ok,F6,F7⟩:=H5 (bG V.m V.l R.ls[J.length]);rw [F6,F7] at F5;have HX:=Hd F6;have F8:=Hd F7;clear F6 F7 H5;obtain ⟨hx,bl,rfl,H6,F9,ON⟩:=F5;clear cu cP;have hW:=G.only F9 ⟨rfl,rfl⟩ G.len G.scan G.turn.size;obtain ⟨T,hT⟩:=At W1.heap.size;rw [aD]
  gi_wp2_with (refine lI rfl rfl 40 aZ (.tmp 14) _ rfl rfl rfl (Blk.new W1 cM 40) rfl (VU 15) rfA ?_;rw [<-hT];refine pK (Lh T x hx W1) ⟨?_,?_⟩ ?_)
  .rw [hT];exact (Blk.new W1 cM 40).setRow _
  .rw [hT];exact ak ((VW _ _).alloc (VU _) _) (VU _) _
  intro M L8;obtain ⟨bT,D8⟩:=L8;have OR:W1.heap.size<=T:=VM hT.symm;clear hT;have A3:=hW.old D8;have D9:KeepsFrom f.heap.size W M:=(G.keeps F9.turn).trans (xW D8);have G0:au (fun y=>dP R y\/y=X) W M:=(G.kpAt F9.turn).trans (hW.kpOld D8);cases ok with
  |false=>
   have I8:=G.failed D7 F8.out;have A9:=Hd (A3.setWh (B4.2.1) ⟨B4.2.2.2.2.1,fun e=>B4.2.2.2.1 e.symm⟩ false);have cH:M.cell? ⟨H,0,none⟩=some (.bool true):=A3.wh'.cell rfl;have fH:=A3.wh'.free;have G1:=Hd (D9.trans ((KeepsOthers.setCell M ⟨H,0,none⟩ (.bool false)).from f.heap.size));clear D9 G0
   gi_wp2;exact ⟨G1.out,rfl,J.length,I8,_,A9.out⟩
  |true=>
   obtain ⟨hm,hf⟩:=BW F8.out;rw [HX.out] at hm hf;have G9:=G.next D7 HX.out F8.out;have C9:=H6.old D8;have J4:B<=M.heap.size:=(by have:=A3.turn.size;omega);have H7:∀W',aJ (ej {V with bl:=bl}) M W'->dp W' x hx:=fun W' ht=>by
    refine (C9.keepB fun y hy=>ht.block y (C9.innerLt hy).2.1 fun hv=> ?_).at;obtain ⟨q1,q2,O0,t,L9,M2⟩:=C9.innerLt hy;rcases Fb hv with hv|⟨z,hz,rfl⟩
    .have:=(G.vl.vault.ltR hv).2;omega
    .exact Blk.ne L9 (A3.vl.vault.boxes z hz).2.2 (by rcases M2 with rfl|rfl<;>decide) rfl
   have ck:=uT M B N.d {V with bl:=bl} A3.vl.vault J4 x hx H7 hm hf (by
    have e1:=G.len;rw [V.len] at e1;show V.ds.length<V.R.ls.length;rw [G.eqs.1];omega)
   rw [aD] at ck;have M3:M.cell? ⟨P,0,none⟩=some (.pointer (some ⟨V.v,0,none⟩)):=A3.ptr.cell rfl;clear H7 hm hf C9 H6
   gi_wp2_with (first|refine me rfl rfl 40 aZ (.tmp 14) rfl rfl bT rfl ?_|(refine ⟨trivial,?_⟩;gi_at_call 51;refine (YD.2 ck).mono ?_));intro e I M4;obtain ⟨V3,rfl,G2,H8,J5,J6⟩:=M4;clear ck M3 bT;have C2:=A3.only G2 ⟨J5,J6⟩ (k':=J.length+1) (by rw [H8,laA];show V.l.length+1=_;rw [G.len]) (by rw [H8];exact G9) A3.turn.size;have HJ:=D9.trans (A3.keeps G2.turn);have HK:=G0.trans (A3.kpAt G2.turn);have cA:I.cell? ⟨A,0,none⟩=some (.int .i64 ((aA (R.ls.take J.length)).length:Int)):=C2.at'.cell rfl;have fA:=C2.at'.free;have HL:(aA (R.ls.take (J.length+1))).length=(aA (R.ls.take J.length)).length+(8+R.ls[J.length].length):=by
    rw [Vj D7,ow,laA,bU]
   have A9:=Hd (C2.setAt B4.1 ⟨B4.2.2.1,B4.2.2.2.1⟩ (k':=J.length+1) (v:=((aA (R.ls.take J.length)).length:Int)+(8+(R.ls[J.length].length:Int))) (by rw [HL];push_cast;omega));have N4:(aA (R.ls.take J.length)).length<=1000000000000:=by
    have q1:=lQ (R.ls.take J.length) (fun x hx=>C1.lens x (List.mem_of_mem_take hx));have q2:=C1.cnt;rw [ltA] at q1;have q3:min J.length R.ls.length*65544<=4096*65544:=Ws _ oA;omega
   have G1:=Hd (HJ.trans ((KeepsOthers.setCell I ⟨A,0,none⟩ (.int .i64 (((aA (R.ls.take J.length)).length:Int)+(8+(R.ls[J.length].length:Int))))).from f.heap.size));have M5:Hid (au (fun y=>dP R y\/y=X) W (I.setCell ⟨A,0,none⟩ (.int .i64 (((aA (R.ls.take J.length)).length:Int)+(8+(R.ls[J.length].length:Int)))))):=Hd (HK.trans ⟨by simp [World.setCell],fun y hy=>Vq I ⟨A,0,none⟩ y _ (by
    rcases hy with hy|rfl
    .exact (C2.sep y (.inr (.inl (by rw [C2.eqs.1];exact hy)))).2.1
    .exact B4.2.2.2.2.2)⟩)
   clear D9 G0 HJ HK HL G9 hb hc;clear H4;generalize O1:(aA (R.ls.take J.length)).length=n1 at*;generalize O2:R.ls[J.length].length=n2 at*
   gi_wp2;refine ⟨G1.out,M5.out,V3,?_⟩;rw [laA];exact A9.out
 case done=>
  rintro D ys W hD J7 ⟨V,G⟩ EE;rw [show ys.length=R.ls.length from J7] at G;have hl:V.l=oJ r.p nm m:=by
   have q:=G.scan.out;rw [Yv,fN] at q;unfold oJ;rw [<-B3.out];exact q.symm
  have B5:eO r.p nm m=true:=by
   unfold eO;rw [<-hl,G.len,B3.out];exact VK rfl
  have cH:W.cell? ⟨H,0,none⟩=some (.bool true):=G.wh'.cell rfl;have cP:W.cell? ⟨P,0,none⟩=some (.pointer (some ⟨V.v,0,none⟩)):=G.ptr.cell rfl;have fP:=G.ptr.free;have I9:W.setCell ⟨P,0,none⟩ (.pointer (some ⟨V.v,0,none⟩))=W:=kW cP;go_wp2_with fail;rw [Wq];have A4:=G.grown F4 (grownBy_putObj' W D (.deferred none)) (fun q e=>by cases e;exact ⟨hD,_,EE,rfl⟩);refine ⟨skA,.inl ⟨_,_,rfl,run_takeDeferred EE,?_⟩⟩;have cx:(W.putObj D (.deferred none)).cell? ⟨P,0,none⟩=some (.pointer (some ⟨V.v,0,none⟩)):=A4.ptr.cell rfl;refine ⟨.tuple #[.pointer (some ⟨V.v,0,none⟩),.int .i64 (iG r.p nm:Int),.int .i64 0],?_,?_⟩
  .simp [results,Tryz.f11,go_sem,cx]
  .rw [HS.out];have ho:¬en r.p nm≠0:=(by rw [D4.out];simp);refine ⟨N,by rw [D1];unfold rD;rw [VV ho,Vz B5],⟨A4.turn,A4.vl.disk,fun x hx=>A4.new x (.inl hx),A0.d⟩,.inr ⟨by unfold kA;rw [VV ho,Vz B5],V,by unfold pQ;rw [Vz B5],A4.vl,A4.eqs.2.1,hl,?_,by rw [A4.eqs.1];exact LA.out,A4.eqs.2.2,fun x hx=> ?_⟩⟩
   .rw [A4.eqs.1];unfold rC;rw [<-hl,G.len,<-B3.out,List.take_length]
   .rcases hx with hx|hx
    .rw [A4.eqs.1] at hx;have:=D3 x hx;omega
    .exact A4.newR x hx
 case stop=>
  rintro D c J W hD-⟨rfl,k,hk,V,G⟩ EE;have hl:V.l=oJ r.p nm m:=by
   have q:=G.scan.out;have q2:=hk.out.2;obtain ⟨t,ht⟩:=vm m (R.ls.drop k) V.l;rw [<-q] at ht;have q3:=WS List.length ht;rw [q2,laA,G.len] at q3;have M6:t=[]:=VX oA;rw [M6,WO] at ht;unfold oJ;rw [<-B3.out];exact ht.symm
  have B5:eO r.p nm m=false:=by
   unfold eO;rw [<-hl,G.len,<-B3.out];have:=hk.out.1;exact VO oA
  refine wpIn_wide.2 ?_;have cH:W.cell? ⟨H,0,none⟩=some (.bool false):=G.wh'.cell rfl;have H9:(aA (R.ls.take k)).length=jx r.p nm m:=by
   unfold jx;rw [<-hl,G.len,<-B3.out]
  obtain ⟨bb,G3⟩:=At (aA (dt r.p nm).1);have G4:=(nN D4.out).1;rw [<-D1,<-G3] at G4;have cr:=zj W B N nm G.vl.disk hs;rw [A0.d,G4] at cr;dsimp only at cr;have hT:=G.toT EE H9;have ID:=Hd G.eqs;have IF:=Hd G3;have IN:=Hd G.len;have M7:=Hd B5;have I0:=Hd hl;have O3:=Hd D3;clear G H9 B5 G3 hl D3;go_wp2_with fail;refine cr.mono ?_;clear cr;rintro e W8 ⟨ra,rn,rc,rfl,I1,-,M8⟩;have E2:=Hd I1;have C3:=hT.old M8;clear I1 hT;have cA:W8.cell? ⟨A,0,none⟩=some (.int .i64 (jx r.p nm m:Int)):=C3.at'.cell rfl;have cc:=yk W8 B N nm (jx r.p nm m:Int) C3.vl.disk hs;rw [A0.d,D1] at cc;obtain ⟨cE,G5⟩:=At ((jF (gN r.p nm) nm (jx r.p nm m:Int)).2);rw [<-G5] at cc;have CK:=Hd G5;clear G5;go_wp2_with fail;refine cc.mono ?_;clear cc;rintro e W9 ⟨rfl,r3,EQ,G6⟩;have A5:=C3.step (bL.vault G6 C3.vl) (fun x hx=> .inl hx);have G7:r3.d=r.d:=G6.d.trans A0.d;have I2:w.heap.size<=D:=oA;clear C3 cA;have HA:∀(W:As) (r4:aG) (E:Int),aK W B r4->aJ (fp r) w W->(∀x,fp r4 x->fp r x\/w.heap.size<=x)->r4.d=r.d->W.heap[D]? =some (.deferred (some []))->r4.p=rD r.p nm m->kA r.p nm m=E->E≠0->S (.returned (.tuple #[.pointer none,.int .i64 0,.int .i64 E])) (W.putObj D (.deferred none)):=fun W r4 E q1 q2 q3 q4 q5 q6 q7 q8=>by
   rw [HS.out];exact ⟨r4,q6,⟨q2.defer I2 _,q1.defer q5 _,q3,q4⟩,.inl ⟨by rw [q7];exact q8,by rw [q7]⟩⟩
  have ho:¬en r.p nm≠0:=(by rw [D4.out];simp);have I3:¬eO r.p nm m=true:=(by rw [M7.out];simp);have hcut:eh r.p nm m=jF (gN r.p nm) nm (jx r.p nm m:Int):=rfl;have HO:=Hd ho;have HF:=Hd I3;have HC:=Hd hcut;clear ho I3 hcut;have I4:=Hd HA;clear HA;have E3:∀{W:As} {V:aR} {r4:aG},OpT B w r r4 P A D (jx r.p nm m) V W->D≠P:=fun {W V r4} hT e=>by
   have hb:W.heap[P]? =_:=hT.ptr;rw [<-e,hT.dfr] at hb;cases hb
  by_cases C4:cE=0;rotate_left 1
  .have M9:(cE !=0)=true:=(by simpa using C4);have O4:W9.cell? ⟨P,0,none⟩=some (.pointer (some ⟨V.v,0,none⟩)):=A5.ptr.cell rfl;have O5:=A5.ptr.free;have C5:=E3 A5;have CW:(W9.setCell ⟨P,0,none⟩ (.pointer none)).heap[D]? =some (.deferred (some [])):=(Vq W9 ⟨P,0,none⟩ D _ C5).trans A5.dfr;have A9:=Hd (I4.out (W9.setCell ⟨P,0,none⟩ (.pointer none)) r3 cE (A5.vl.disk.keep fun x hx=>Vq W9 ⟨P,0,none⟩ x _ (A5.sep x (.inl hx)).1) (A5.turn.setCell (x:=⟨P,0,none⟩) (.inr D0) _) (fun x hx=>A5.new x (.inl hx)) G7 CW
    (by unfold rD;rw [VV HO.out,VV HF.out,HC.out,Vz (by rw [<-CK.out];exact C4),EQ]) (by unfold kA;rw [VV HO.out,VV HF.out,HC.out,Vz (by rw [<-CK.out];exact C4),CK.out]) C4)
   have cx:((W9.setCell ⟨P,0,none⟩ (.pointer none)).putObj D (.deferred none)).cell? ⟨P,0,none⟩=some (.pointer none):=(VE (a:=⟨P,0,none⟩) (World.putObj_heap_other (Vl C5))).trans ((A5.ptr.set 0 (.pointer none)).cell rfl);go_wp2_with fail;rw [Wq];refine ⟨skA,.inl ⟨_,_,rfl,run_takeDeferred CW,?_⟩⟩;refine ⟨.tuple #[.pointer none,.int .i64 0,.int .i64 cE],?_,A9.out⟩;simp [results,Tryz.f11,go_sem,cx]
  .subst C4;have M9:((0:Int) !=0)=false:=rfl;go_upto_region 21 with fail;have A2:=A5.old (VW _ _).drew;have J8:B<=W9.drew.heap.size:=(by have:=A2.turn.size;omega);have co:=vV W9.drew B r3 nm A2.vl.disk J8 hs;rw [G7] at co;have L0:∀W,au (fun x=>x=P) W9.drew W->W.cell? ⟨P,0,none⟩=some (.pointer (some ⟨V.v,0,none⟩)):=fun W hW=>(VE (a:=⟨P,0,none⟩) (hW.2 P rfl)).trans (A2.ptr.cell rfl);refine ah false (au (fun x=>x=P)) (au.refl _) (fun _ _ _ h1 h2=>au.trans h1 h2) (.step 0 (.step 1 (.step 2 (.step 3 (.step 4 (.step 5 (.step 6 (.step 7 (.step 8 (.step 9 (.step 10 (.step 11 .done)))))))))))) krA krA cdA ?_
   repeat refine txA ?_
   refine am rfl rfl rfA (fun K j=> ?_);go_wp2_with fail;refine co.mono ?_;clear co;rintro e A8 ⟨r4,I5,C6,E0⟩;have E4:=bL.vault C6 A2.vl;have O:=A2.step E4 (fun x hx=> .inl hx);have HM:r4.d=r.d:=C6.d.trans G7;have G8:au (fun x=>x=P) W9.drew A8:=⟨C6.turn.size,fun x hx=>by subst hx;exact E4.turn.block x A2.ptr.lt fun hF=>(A2.sep x hF).1 rfl⟩;have B7:=O.vl.vault.blk;have J9:=B7.free;have HN:A8.cell? ⟨V.v,1,none⟩=some (.pointer (some ⟨V.R.l,0,none⟩)):=B7.cell rfl;rcases E0 with ⟨C7,rfl⟩|⟨C7,R4,rfl,HP,K0,K1,-,E5⟩
   .obtain ⟨e4,E6⟩:=At (en r3.p nm);rw [<-E6] at C7⊢;have NE:=Hd E6;clear E6;go_wp2_with fail;refine j _ _ G8 ?_;clear j K L0
    repeat refine txA ?_
    refine am rfl rfl rfA (fun K j=> ?_);go_wp2_with fail;refine j _ _ ⟨by simp [World.setCell],fun x hx=>by subst hx;exact Vq A8 ⟨V.v,1,none⟩ x _ (O.ptr.ne B7 dcA)⟩ ?_;clear j K
    repeat refine txA ?_
    refine aq ?_;obtain ⟨L,DO⟩:=At (A8.setCell ⟨V.v,1,none⟩ (.pointer none));rw [<-DO];have E7:∀x,x≠V.v->L.heap[x]? =A8.heap[x]? :=fun x hx=>(by rw [DO];exact Vq A8 ⟨V.v,1,none⟩ x _ hx);have t11:aJ (fp r) w L:=(by rw [DO];exact O.turn.setCell (x:=⟨V.v,1,none⟩) (.inr (O.newR _ (.inl rfl))) _);have C0:Blk L P #[.pointer (some ⟨V.v,0,none⟩)] 28:=(E7 P (O.ptr.ne B7 dcA)).trans O.ptr;have d11:L.heap[D]? =some (.deferred (some [])):=(E7 D fun e=>(O.sep V.v (.inr (.inr (.inl rfl)))).2.2 e.symm).trans O.dfr;have C5:=E3 O;have N5:L.cell? ⟨P,0,none⟩=some (.pointer (some ⟨V.v,0,none⟩)):=C0.cell rfl;have HQ:=C0.free;have K2:aK L B r4:=O.vl.disk.keep fun x hx=>E7 x fun e=>O.vl.apart V.v (.inr (.inl rfl)) (e▸hx);have CW:(L.setCell ⟨P,0,none⟩ (.pointer none)).heap[D]? =some (.deferred (some [])):=(Vq L ⟨P,0,none⟩ D _ C5).trans d11;have BY:¬(eh r.p nm m).2≠0:=(by rw [HC.out,<-CK.out];simp);have e3:(eh r.p nm m).1=r3.p:=(by rw [HC.out,EQ]);have O6:(e4 !=0)=true:=(by simpa using C7);have A9:=Hd (I4.out (L.setCell ⟨P,0,none⟩ (.pointer none)) r4 e4 (K2.keep fun x hx=>Vq L ⟨P,0,none⟩ x _ (O.sep x (.inl hx)).1) (t11.setCell (x:=⟨P,0,none⟩) (.inr D0) _) (fun x hx=>O.new x (.inl hx)) HM CW
     (by unfold rD;rw [VV HO.out,VV HF.out,VV BY,e3,I5]) (by unfold kA;rw [VV HO.out,VV HF.out,VV BY,e3,NE.out]) C7)
    have cx:((L.setCell ⟨P,0,none⟩ (.pointer none)).putObj D (.deferred none)).cell? ⟨P,0,none⟩=some (.pointer none):=(VE (a:=⟨P,0,none⟩) (World.putObj_heap_other (Vl C5))).trans ((C0.set 0 (.pointer none)).cell rfl);clear BY e3 HN DO;go_wp2_with fail;rw [Wq];refine ⟨skA,.inl ⟨_,_,rfl,run_takeDeferred CW,?_⟩⟩;refine ⟨.tuple #[.pointer none,.int .i64 0,.int .i64 e4],?_,A9.out⟩;simp [results,Tryz.f11,go_sem,cx]
   .go_wp2_with fail;refine j _ _ G8 ?_;clear j K L0
    repeat refine txA ?_
    refine am rfl rfl rfA (fun K j=> ?_);go_wp2_with fail;refine j _ _ ⟨by simp [World.setCell],fun x hx=>by subst hx;exact Vq A8 ⟨V.v,1,none⟩ x _ (O.ptr.ne B7 dcA)⟩ ?_;clear j K
    repeat refine txA ?_
    refine aq ?_;have E8:R4.ls=rC r.p nm m:=by
     have q:=sr (p:=r.p) (nm:=nm) D4.out (oJ r.p nm m).length (by rw [CK.out];rfl);rw [K1,EQ];unfold jx;rw [q];rfl
    have HB:V.ds.length<=R4.ls.length:=by
     rw [E8];unfold rC;rw [<-I0.out,<-B3.out,ltA,IN.out,<-V.len,IN.out];have:=hk.out.1;omega
    have HR:=PZ A2.vl C6 HP E5 HB;have B0:=A2.step HR (fun x hx=> .inl hx);generalize A8.setCell ⟨V.v,1,none⟩ (.pointer (some ⟨R4.l,0,none⟩))=L at*;have BY:¬(eh r.p nm m).2≠0:=(by rw [HC.out,<-CK.out];simp);have e3:(eh r.p nm m).1=r3.p:=(by rw [HC.out,EQ]);have J0:jx r.p nm m<=rn:=by
     rw [<-E2.out,IF.out];unfold jx;have q:aA (dt r.p nm).1=aA ((dt r.p nm).1.take (oJ r.p nm m).length)++aA ((dt r.p nm).1.drop (oJ r.p nm m).length):=by
      unfold aA;rw [<-YJ,<-VF,WP]
     rw [q,laA];omega
    have K3:rn<=1048576:=by
     have q:=jM A0.at'.ok nm;rw [G4] at q;rw [<-E2.out];exact q
    have N0:iG r.p nm<=1048576:=by
     have q:=jM h.ok nm;have q2:=qf ju (bN r.p nm).1;unfold iG dt;split<;>omega
    have I6:(pQ r.p nm m:Int)=(iG r.p nm:Int)+(rn:Int)-(jx r.p nm m:Int):=by
     unfold pQ;rw [VV HF.out,<-IF.out,show bb.length=rn from E2.out];omega
    have K4:Hid (S (.returned (.tuple #[.pointer (some ⟨V.v,0,none⟩),.int .i64 (pQ r.p nm m:Int),.int .i64 0])) (L.drew.putObj D (.deferred none))):=by
     refine Hd ?_;rw [HS.out];have B1:=B0.old (VW _ _).drew;refine ⟨r4,by unfold rD;rw [VV HO.out,VV HF.out,VV BY,e3,I5],⟨B1.turn.defer I2 _,B1.vl.disk.defer B1.dfr _,fun x hx=>B1.new x (.inl hx),HM⟩,.inr ⟨by unfold kA;rw [VV HO.out,VV HF.out,VV BY,e3];exact C7,{V with R:=R4},rfl,B1.vl.defer B1.dfr _,ID.out.2.1,I0.out,E8,K0,ID.out.2.2,fun x hx=> ?_⟩⟩;rcases hx with hx|hx
     .have q1:=E5 x hx;have q2:=A2.turn.size;omega
     .exact B1.newR x hx
    have J1:=B0.dfr;have cx:(L.drew.putObj D (.deferred none)).cell? ⟨P,0,none⟩=some (.pointer (some ⟨V.v,0,none⟩)):=(VE (a:=⟨P,0,none⟩) (World.putObj_heap_other (Vl (E3 B0)))).trans (B0.ptr.cell rfl);have C0:=B0.ptr;have HQ:=C0.free;have M0:∀W,au (fun x=>x=P\/x=A) L.drew W->W.cell? ⟨P,0,none⟩=some (.pointer (some ⟨V.v,0,none⟩)):=fun W hW=>(VE (a:=⟨P,0,none⟩) (hW.2 P (.inl rfl))).trans (B0.ptr.cell rfl);have M1:∀W,au (fun x=>x=P\/x=A) L.drew W->W.cell? ⟨A,0,none⟩=some (.int .i64 (jx r.p nm m:Int)):=fun W hW=>(VE (a:=⟨A,0,none⟩) (hW.2 A (.inr rfl))).trans (B0.at'.cell rfl);have I9:L.drew.setCell ⟨P,0,none⟩ (.pointer (some ⟨V.v,0,none⟩))=L.drew:=kW (M0 _ (au.refl _ _));have w1:IntKind.i64.wrap ((iG r.p nm:Int)+(rn:Int))=(iG r.p nm:Int)+(rn:Int):=VD _ oA;have w2:IntKind.i64.wrap ((iG r.p nm:Int)+(rn:Int)-(jx r.p nm m:Int))=(pQ r.p nm m:Int):=by
     rw [I6];exact VD _ oA
    clear BY e3 E8 HB HR K3 N0 I6 J0 HP E5 G8 E4 O B7 J9 HN A2 A5 C6 G6;generalize iG r.p nm=oN at*;generalize jx r.p nm m=at_ at*;generalize pQ r.p nm m=vN at*;go_upto_region 24 with fail;have O7:=M0 _ (au.refl _ _);have O8:∀i,L.drew.frozen? ⟨P,i,none⟩=false:=HQ;refine ah false (au (fun x=>x=P\/x=A)) (au.refl _) (fun _ _ _ h1 h2=>au.trans h1 h2) (.step 0 (.step 1 (.step 2 (.step 3 (.step 4 (.step 5 (.step 6 (.step 7 (.step 8 (.step 9 .done)))))))))) krA krA cdA ?_
    repeat refine txA ?_
    refine am rfl rfl rfA (fun K j=> ?_);go_wp2_with fail;refine j _ _ (au.refl _ _) ?_;clear j K
    repeat refine txA ?_
    refine aq ?_;go_wp2_with fail;rw [Wq];refine ⟨skA,.inl ⟨_,_,rfl,run_takeDeferred J1,?_⟩⟩;refine ⟨.tuple #[.pointer (some ⟨V.v,0,none⟩),.int .i64 (vN:Int),.int .i64 0],?_,K4.out⟩;simp [results,Tryz.f11,go_sem,cx]
end
end Go.Proofs.YtioigihakjlopaaGreat
