/- Texts put together and cut to what is used: Reads, State, DiskPlain, ImPlain. -/
import Derived.Test.YtioigihakjlopaaGreatVB01
import Derived.Test.YtioigihakjlopaaGreatRows
namespace Go.Proofs.YtioigihakjlopaaGreat
set_option linter.unusedVariables false
set_option linter.unusedSimpArgs false
section
open Go.ChangeShapes Go.WideShapes Go.ChangeAt Go.RowKit
section
variable {H:Type} {enc:TypeId×Value→H} {P:Program} {w:World}
def Came (enc:TypeId×Value→H) (P:Program) (w:World) (t:TypeId) (cs:List Value):Prop:=
 ∃(n:Nat) (x:DataW H×List MemPlace),DataW.trod enc P w 0 (fun _=>true) true n t cs=some x∧∀m∈x.1.weights P t,m≤reachBytes
theorem mapM_get {α β:Type} {f:α→Option β}:∀{l:List α} {r:List β},l.mapM f=some r→r.length=l.length∧∀(i:Nat) (h:i<l.length) (h':i<r.length),f l[i]=some r[i]
 | [],r,h=>by
  simp at h;subst h
  exact ⟨rfl,fun i h=>by simp at h⟩
 |a::l,r,h=>by
  rw [List.mapM_cons] at h
  cases ha:f a with
  |none=>simp [ha] at h
  |some b=>
   cases hl:l.mapM f with
   |none=>simp [ha,hl] at h
   |some r'=>
    simp [ha,hl] at h
    subst h
    obtain ⟨h1,h2⟩:=mapM_get hl
    refine ⟨by simp [h1],fun i hi hi'=> ?_⟩
    cases i with
    |zero=>simpa using ha
    |succ i=>simpa using h2 i (by simpa using hi) (by simpa using hi')
theorem weightsEach_get {ts:List TypeId} {ds:List (DataW H)} {i:Nat} (h:i<ts.length) (h':i<ds.length):∀m∈ds[i].weights P ts[i],m∈DataW.weightsEach P ts ds:=
 DataW.weights_mem_each (List.getElem?_eq_getElem h) (List.getElem?_eq_getElem h')
theorem Came.field {t:TypeId} {fs:Array Field} {cs:List Value} (h:Came enc P w t cs) (hs:P.underlying t=some (.struct fs)) (j:Nat) (hj:j<fs.toList.length):
  Came enc P w fs.toList[j].type ((cs.drop fs.toList[j].offset).take (P.cellsOf fs.toList[j].type)):=by
 obtain ⟨n,x,h1,h2⟩:=h
 cases n with
 |zero=>simp [DataW.trod] at h1
 |succ n=>
  unfold DataW.trod at h1
  rw [hs] at h1
  simp only at h1
  split at h1
  ·obtain ⟨xs,hx,rfl⟩:=Option.map_eq_some_iff.1 h1
   obtain ⟨hl,hg⟩:=mapM_get hx
   have hj':j<xs.length:=by rw [hl];exact hj
   refine ⟨n,xs[j],hg j hj hj',fun m hm=>h2 m ?_⟩
   simp only [DataW.weights,hs]
   refine weightsEach_get (i:=j) (by simpa using hj) (by simpa using hj') m ?_
   simpa using hm
  ·cases h1
theorem Came.elem {t e:TypeId} {k:Nat} {cs:List Value} (h:Came enc P w t cs) (hs:P.underlying t=some (.array k e)) (j:Nat) (hj:j<k):
  Came enc P w e ((cs.drop (j*P.cellsOf e)).take (P.cellsOf e)):=by
 obtain ⟨n,x,h1,h2⟩:=h
 cases n with
 |zero=>simp [DataW.trod] at h1
 |succ n=>
  unfold DataW.trod at h1
  rw [hs] at h1
  simp only at h1
  split at h1
  ·obtain ⟨xs,hx,rfl⟩:=Option.map_eq_some_iff.1 h1
   obtain ⟨hl,hg⟩:=mapM_get hx
   rw [List.length_range] at hl
   have hj':j<xs.length:=by rw [hl];exact hj
   have:=hg j (by simpa using hj) hj'
   rw [List.getElem_range] at this
   refine ⟨n,xs[j],this,fun m hm=>h2 m ?_⟩
   simp only [DataW.weights,hs]
   exact weightsAll_mem (d:=xs[j].1) (List.mem_map.2 ⟨xs[j],List.getElem_mem _,rfl⟩) m hm
  ·cases h1
theorem Came.int {t:TypeId} {k:IntKind} {c:Value} (h:Came enc P w t [c]) (hs:P.underlying t=some (.int k)):∃n,c= .int k n∧(Lit.int k n).wf=true:=by
 obtain ⟨n,x,h1,_⟩:=h
 cases n with
 |zero=>simp [DataW.trod] at h1
 |succ n=>
  unfold DataW.trod at h1
  rw [hs] at h1
  split at h1<;>simp_all
theorem Came.slice {t e:TypeId} {c:Value} (h:Came enc P w t [c]) (hs:P.underlying t=some (.slice e)):
  ∃a len cap,c= .slice a len cap∧len≤cap∧cap≤maxLen∧(a=none→len=0)∧len*P.bytesOf e≤140737488351232∧
   ∀x,a=some x→∀i,i<len→∃cs,w.cells? 0 (x.add (i*P.cellsOf e)) (P.cellsOf e)=some cs∧Came enc P w e cs:=by
 obtain ⟨n,x,h1,h2⟩:=h
 cases n with
 |zero=>simp [DataW.trod] at h1
 |succ n=>
  unfold DataW.trod at h1
  rw [hs] at h1
  split at h1
  all_goals try (simp_all;done)
  ·rename_i e1 e2
   simp at e2
   subst e2
   exact ⟨none,0,0,rfl,Nat.le_refl _,by unfold maxLen;omega,fun _=>rfl,by omega,fun x hx=>by cases hx⟩
  ·rename_i e' ad len cap e1 e2
   simp only [Option.some.injEq,TypeDesc.slice.injEq] at e1
   simp at e2
   subst e1 e2
   simp only at h1
   split at h1
   ·rename_i hcond
    obtain ⟨elems,hx,h3⟩:=Option.bind_eq_some_iff.1 h1
    obtain ⟨rest,hr,rfl⟩:=Option.map_eq_some_iff.1 h3
    obtain ⟨hl,hg⟩:=mapM_get hx
    rw [List.length_range] at hl
    refine ⟨some ad,len,cap,rfl,hcond.2.1,hcond.2.2,fun h=>by simp at h,?_,fun x hx i hi=> ?_⟩
    ·have:=h2 ((elems.length+rest.length)*P.bytesOf e) (by simp [DataW.weights,hs])
     rw [hl] at this
     have hmul:len*P.bytesOf e≤(len+rest.length)*P.bytesOf e:=Nat.mul_le_mul_right _ (by omega)
     have hr:reachBytes=140737488351232:=rfl
     omega
    ·obtain rfl:=Option.some.inj hx
     have hi':i<elems.length:=by rw [hl];exact hi
     have:=hg i (by simpa using hi) hi'
     rw [List.getElem_range] at this
     obtain ⟨cs,hc,ht⟩:=Option.bind_eq_some_iff.1 this
     refine ⟨cs,hc,n,elems[i],ht,fun m hm=>h2 m ?_⟩
     simp only [DataW.weights,hs,List.mem_cons,List.mem_append]
     exact .inr (.inl (weightsAll_mem (d:=elems[i].1) (List.mem_map.2 ⟨elems[i],List.getElem_mem _,rfl⟩) m hm))
   ·cases h1
theorem flatMap_len {α:Type} {g:α→List Value} {sz:Nat} (hg:∀y,(g y).length=sz):∀l:List α,(l.flatMap g).length=l.length*sz
 | []=>by simp
 |y::l=>by rw [List.flatMap_cons,List.length_append,hg,flatMap_len hg l,List.length_cons,Nat.add_mul];omega
theorem flatMap_get {α:Type} {g:α→List Value} {sz:Nat} (hg:∀y,(g y).length=sz):∀(l:List α) (i r:Nat),r<sz→(h:i<l.length)→(l.flatMap g)[i*sz+r]? =(g l[i])[r]?
 |y::l,0,r,hr,_=>by rw [List.flatMap_cons,Nat.zero_mul,Nat.zero_add,List.getElem?_append_left (by rw [hg];exact hr)];rfl
 |y::l,i+1,r,hr,h=>by
  rw [List.flatMap_cons,List.getElem?_append_right (by rw [hg,Nat.add_mul];omega),hg]
  have:(i+1)*sz+r-sz=i*sz+r:=by rw [Nat.add_mul];omega
  rw [this,flatMap_get hg l i r hr (by simpa using h)]
  rfl
theorem came_row {α:Type} [Inhabited α] {g:α→List Value} {Ok:α→Prop} {sz:Nat} {e:TypeId} (hg:∀y,(g y).length=sz) (hpos:0<sz) (hce:P.cellsOf e=sz) (hread:∀cs,Came enc P w e cs→cs.length=sz→∃y,cs=g y∧Ok y)
  {a:Option Addr} {len:Nat} (h0:a=none→len=0) (h:∀x,a=some x→∀i,i<len→∃cs,w.cells? 0 (x.add (i*P.cellsOf e)) (P.cellsOf e)=some cs∧Came enc P w e cs):
  ∃l:List α,l.length=len∧RowAt w a (l.flatMap g)∧∀y∈l,Ok y:=by
 rw [hce] at h
 cases a with
 |none=>exact ⟨[],(h0 rfl).symm,RowAt.nil _ _,fun y hy=>by simp at hy⟩
 |some x=>
  have each:∀i,i<len→∃y,w.cells? 0 (x.add (i*sz)) sz=some (g y)∧Ok y:=by
   intro i hi
   obtain ⟨cs,h1,h2⟩:=h x rfl i hi
   have hlen:cs.length=sz:=by
    unfold World.cells? at h1
    rw [if_pos (Nat.zero_le _)] at h1
    have:=(mapM_get h1).1
    simpa using this
   obtain ⟨y,rfl,hy⟩:=hread cs h2 hlen
   exact ⟨y,h1,hy⟩
  obtain ⟨y,hy⟩:=Go.Deep.choose_lt each
  have cell:∀i r,i<len→r<sz→w.cell? ((x.add (i*sz)).add r)=(g (y i))[r]? :=by
   intro i r hi hr
   have h1:=(hy i hi).1
   unfold World.cells? at h1
   rw [if_pos (Nat.zero_le _)] at h1
   obtain ⟨hl,hm⟩:=mapM_get h1
   have hr':r<(g (y i)).length:=by rw [hg];exact hr
   have:=hm r (by simpa using hr) hr'
   rw [List.getElem_range] at this
   rw [this,List.getElem?_eq_getElem hr']
  refine ⟨(List.range len).map y,by simp,?_,fun z hz=> ?_⟩
  ·intro j hj
   rw [flatMap_len hg,List.length_map,List.length_range] at hj
   have hi:j/sz<len:=(Nat.div_lt_iff_lt_mul hpos).2 hj
   have hr:j%sz<sz:=Nat.mod_lt _ hpos
   have hsp:x.spot=none:=by
    have h00:=cell 0 0 (Nat.lt_of_le_of_lt (Nat.zero_le _) hi) hpos
    have hlt:0<(g (y 0)).length:=by rw [hg];exact hpos
    rw [List.getElem?_eq_getElem hlt] at h00
    simp [Addr.add] at h00
    exact World.cell?_spot h00
   obtain ⟨b,o,sp⟩:=x
   simp only at hsp
   subst hsp
   have hc:=cell (j/sz) (j%sz) hi hr
   rw [Addr.add_mid,Addr.add_mid,Nat.add_assoc,Nat.mul_comm,Nat.div_add_mod] at hc
   refine ⟨b,o,rfl,hc.trans ?_⟩
   have hf:=flatMap_get hg ((List.range len).map y) (j/sz) (j%sz) hr (by simpa using hi)
   rw [Nat.mul_comm,Nat.div_add_mod] at hf
   simp only [List.getElem_map,List.getElem_range] at hf
   rw [←hf,List.getElem?_eq_getElem]
  ·obtain ⟨i,hi,rfl⟩:=List.mem_map.1 hz
   exact (hy i (List.mem_range.1 hi)).2
theorem came_agg {t:TypeId} {fs:Array Field} {n:Nat} {v:Value} {d:DataW H} {ps:List MemPlace} {r:Reach} {b0:Nat} (ht:P.underlying t=some (.struct fs)) (hn:P.cellsOf t=n) (hz:∀n∈d.weights P t,n≤reachBytes) (hv:Value.okWide P w r b0 t v)
  (h:DataW.Trod enc P w 0 (fun _=>true) true t v d ps):∃cs:List Value,v= .agg cs.toArray∧cs.length=n∧Came enc P w t cs:=by
 obtain ⟨cs,rfl,hs⟩:=okWide_struct ht hv
 obtain ⟨fuel,hf⟩:=h
 exact ⟨cs.toList,by simp,by rw [Array.length_toList,hs,hn],fuel,(d,ps),by simpa [Value.cells] using hf,hz⟩
end
end
section
open Go.ChangeShapes Go.WideShapes Go.ChangeAt Go.RowKit
set_option maxRecDepth 20000
def wf64 (n:Int):Prop:=(Lit.int .i64 n).wf=true
def wf8 (n:Int):Prop:=(Lit.int .i8 n).wf=true
structure ThingL where
 id:Int
 card:Int
 harm:Int
 tired:Bool
deriving DecidableEq, Inhabited
def bi (n:Int):List Value:=[.int .i64 n]
def IntRow (w:World) (a:Option Addr) (n c:Nat) (l:List Int):Prop:=RowAt w a (l.map (Value.int .i64))∧l.length=n∧n≤c∧c≤maxLen∧n≤17592186044000∧∀x∈l,wf64 x
section
variable {H:Type} {enc:TypeId×Value→H} {w:World}
theorem int1:Tryz.prog.cellsOf 3=1:=by kernel_rfl
theorem i8c:Tryz.prog.cellsOf 32=1:=by kernel_rfl
theorem ints1:Tryz.prog.cellsOf 34=1:=by kernel_rfl
theorem intBytes:Tryz.prog.bytesOf 3=8:=by kernel_rfl
theorem came_ints {v:Value} (h:Came enc Tryz.prog w 34 [v]):∃a n c l,v= .slice a n c∧IntRow w a n c l:=by
 obtain ⟨a,len,cap,rfl,h1,h2,h3,h4,h5⟩:=h.slice Tryz.underlying34
 obtain ⟨l,hl,hr,hw⟩:=came_row (g:=bi) (Ok:=wf64) (fun _=>rfl) Nat.one_pos int1 (fun cs hc hlen=>by
  match cs,hlen with
  | [c],_=>
   obtain ⟨n,rfl,hw⟩:=hc.int Tryz.underlying3
   exact ⟨n,rfl,hw⟩) h3 h5
 rw [intBytes] at h4
 refine ⟨a,len,cap,l,rfl,?_,hl,h1,h2,by omega,hw⟩
 have e:l.flatMap bi=l.map (Value.int .i64):=by
  clear hl hr hw
  induction l with
  |nil=>rfl
  |cons x l ih=>rw [List.flatMap_cons,ih];rfl
 rw [←e];exact hr
end
structure Sl where
 a:Option Addr
 n:Nat
 c:Nat
deriving Inhabited
def Ints (w:World) (s:Sl) (l:List Int):Prop:=IntRow w s.a s.n s.c l
theorem IntRow.below {w w':World} {a:Option Addr} {n c:Nat} {l:List Int} (h:IntRow w a n c l) (hb:Below w.heap.size w w'):IntRow w' a n c l:=⟨h.1.below hb,h.2⟩
theorem Ints.old {w w':World} {s:Sl} {l:List Int} (h:Ints w s l) (hb:Below w.heap.size w w'):Ints w' s l:=IntRow.below h hb
section
variable {H:Type} {enc:TypeId×Value→H} {w:World}
theorem came_ints' {v:Value} (h:Came enc Tryz.prog w 34 [v]):∃(s:Sl) (l:List Int),v= .slice s.a s.n s.c∧Ints w s l:=by
 obtain ⟨a,n,c,l,e,h⟩:=came_ints h
 exact ⟨⟨a,n,c⟩,l,e,h⟩
end
structure PairL where
 at_:Int
 by_:Int
deriving DecidableEq, Inhabited
def PairL.cells (x:PairL):List Value:=[.int .i64 x.at_,.int .i64 x.by_]
def PairL.wf (x:PairL):Prop:=wf64 x.at_∧wf64 x.by_
def Pairs (w:World) (s:Sl) (l:List PairL):Prop:=RowAt w s.a (l.flatMap PairL.cells)∧l.length=s.n∧s.n≤s.c∧s.c≤maxLen∧s.n≤8796093021952∧∀x∈l,x.wf
theorem Pairs.old {w w':World} {s:Sl} {l:List PairL} (h:Pairs w s l) (hb:Below w.heap.size w w'):Pairs w' s l:=⟨h.1.below hb,h.2⟩
theorem pairs1:Tryz.prog.cellsOf 36=1:=by kernel_rfl
theorem pair2:Tryz.prog.cellsOf 157=2:=by kernel_rfl
theorem pairBytes:Tryz.prog.bytesOf 157=16:=by kernel_rfl
theorem came_pairs' {H:Type} {enc:TypeId×Value→H} {w:World} {v:Value} (h:Came enc Tryz.prog w 36 [v]):∃(s:Sl) (l:List PairL),v= .slice s.a s.n s.c∧Pairs w s l:=by
 obtain ⟨a,len,cap,rfl,h1,h2,h3,h4,h5⟩:=h.slice Tryz.underlying36
 obtain ⟨l,hl,hr,hw⟩:=came_row (g:=PairL.cells) (Ok:=PairL.wf) (fun _=>rfl) (by omega) pair2 (fun cs hc hlen=>by
  match cs,hlen with
  | [c0,c1],_=>
   have f0:=hc.field Tryz.underlying157 0 (by decide)
   have f1:=hc.field Tryz.underlying157 1 (by decide)
   simp [int1] at f0 f1
   obtain ⟨n0,rfl,w0⟩:=f0.int Tryz.underlying3
   obtain ⟨n1,rfl,w1⟩:=f1.int Tryz.underlying3
   exact ⟨⟨n0,n1⟩,rfl,w0,w1⟩) h3 h5
 rw [pairBytes] at h4
 exact ⟨⟨a,len,cap⟩,l,rfl,hr,hl,h1,h2,by show len≤_;omega,hw⟩
def OwnInts (w:World) (B:Nat) (s:Sl) (l:List Int):Prop:=Own w B 3 1 s.a s.n s.c (l.map (Value.int .i64))∧Ints w s l
section
variable {w w':World} {B:Nat} {s:Sl} {l:List Int}
theorem OwnInts.at (a:OwnInts w B s l):Ints w s l:=a.2
theorem OwnInts.old (a:OwnInts w B s l) (hb:Below w.heap.size w w'):OwnInts w' B s l:=⟨a.1.old hb,a.2.old hb⟩
theorem OwnInts.set (a:OwnInts w B s l) (x:Addr) (v:Value) (hx:x.block<B):OwnInts (w.setCell x v) B s l:=⟨a.1.setCell_lt x v hx,(a.1.setCell_lt x v hx).row,a.2.2⟩
theorem OwnInts.setRow (a:OwnInts w B s l) (g:Nat) (cs:Array Value) (hx:g<B):OwnInts (w.setRow g cs) B s l:=⟨a.1.setRow_lt g cs hx,(a.1.setRow_lt g cs hx).row,a.2.2⟩
theorem OwnInts.apart (h:OwnInts w B s l) {B':Nat} {T:TypeId} {size':Nat} {a:Option Addr} {n c:Nat} {vs:List Value} (ho:Own w B' T size' a n c vs) (hne:T≠3) (hg:w.grownBy w' (Value.slice a n c).ownBlock):OwnInts w' B s l:=⟨h.1.apart ho hne hg,(h.1.apart ho hne hg).row,h.2.2⟩
theorem OwnInts.lower (a:OwnInts w B s l) {B':Nat} (hB:B'≤B):OwnInts w B' s l:=⟨a.1.lower hB,a.2⟩
theorem OwnInts.mk' {w0:World} {s0:Sl} (h:Own w B 3 1 s.a s.n s.c (l.map (Value.int .i64))) (h0:Ints w0 s0 l) (hn:s.n=s0.n):OwnInts w B s l:=⟨h,h.row,by rw [hn];exact h0.2.1,h.le,h.cap_le,by rw [hn];exact h0.2.2.2.2.1,h0.2.2.2.2.2⟩
theorem OwnInts.nil (w:World) (B:Nat):OwnInts w B ⟨none,0,0⟩ []:=⟨Own.nil _ _ _ _,RowAt.nil _ _,rfl,Nat.le_refl _,by unfold maxLen;simp,by simp,fun x hx=>by simp at hx⟩
end
def OwnPairs (w:World) (B:Nat) (s:Sl) (l:List PairL):Prop:=Own w B 157 2 s.a s.n s.c (l.flatMap PairL.cells)∧Pairs w s l
section
variable {w w':World} {B:Nat} {s:Sl} {l:List PairL}
theorem OwnPairs.at (a:OwnPairs w B s l):Pairs w s l:=a.2
theorem OwnPairs.old (a:OwnPairs w B s l) (hb:Below w.heap.size w w'):OwnPairs w' B s l:=⟨a.1.old hb,a.2.old hb⟩
theorem OwnPairs.setRow (a:OwnPairs w B s l) (g:Nat) (cs:Array Value) (hx:g<B):OwnPairs (w.setRow g cs) B s l:=⟨a.1.setRow_lt g cs hx,(a.1.setRow_lt g cs hx).row,a.2.2⟩
theorem OwnPairs.lower (a:OwnPairs w B s l) {B':Nat} (hB:B'≤B):OwnPairs w B' s l:=⟨a.1.lower hB,a.2⟩
theorem OwnPairs.mk' {w0:World} {s0:Sl} (h:Own w B 157 2 s.a s.n s.c (l.flatMap PairL.cells)) (h0:Pairs w0 s0 l) (hn:s.n=s0.n):OwnPairs w B s l:=⟨h,h.row,by rw [hn];exact h0.2.1,h.le,h.cap_le,by rw [hn];exact h0.2.2.2.2.1,h0.2.2.2.2.2⟩
theorem OwnPairs.nil (w:World) (B:Nat):OwnPairs w B ⟨none,0,0⟩ []:=⟨Own.nil _ _ _ _,RowAt.nil _ _,rfl,Nat.le_refl _,by unfold maxLen;simp,by simp,fun x hx=>by simp at hx⟩
end
structure ActionP where
 op:Int
 side:Int
 place:Int
 target:Int
 ids:List Int
 pairs:List PairL
deriving DecidableEq, Inhabited
structure ActionH where
 ids:Sl
 pairs:Sl
deriving Inhabited
def actionCells (p:ActionP) (h:ActionH):List Value:=[.int .i8 p.op,.int .i64 p.side,.int .i64 p.place,.int .i64 p.target,.slice h.ids.a h.ids.n h.ids.c,.slice h.pairs.a h.pairs.n h.pairs.c]
def actionVal (p:ActionP) (h:ActionH):Value:= .agg #[.int .i8 p.op,.int .i64 p.side,.int .i64 p.place,.int .i64 p.target,.slice h.ids.a h.ids.n h.ids.c,.slice h.pairs.a h.pairs.n h.pairs.c]
theorem actionVal_cells (p:ActionP) (h:ActionH):actionVal p h= .agg (actionCells p h).toArray:=rfl
structure ActionAt (w:World) (p:ActionP) (h:ActionH):Prop where
 op:wf8 p.op
 side:wf64 p.side
 place:wf64 p.place
 target:wf64 p.target
 ids:Ints w h.ids p.ids
 pairs:Pairs w h.pairs p.pairs
theorem ActionAt.old {w w':World} {p:ActionP} {h:ActionH} (a:ActionAt w p h) (hb:Below w.heap.size w w'):ActionAt w' p h:=
 ⟨a.op,a.side,a.place,a.target,a.ids.old hb,a.pairs.old hb⟩
structure ActionOwn (w:World) (B:Nat) (p:ActionP) (h:ActionH):Prop where
 op:wf8 p.op
 side:wf64 p.side
 place:wf64 p.place
 target:wf64 p.target
 ids:OwnInts w B h.ids p.ids
 pairs:OwnPairs w B h.pairs p.pairs
theorem ActionOwn.at {w:World} {B:Nat} {p:ActionP} {h:ActionH} (a:ActionOwn w B p h):ActionAt w p h:=⟨a.op,a.side,a.place,a.target,a.ids.at,a.pairs.at⟩
theorem ActionOwn.old {w w':World} {B:Nat} {p:ActionP} {h:ActionH} (a:ActionOwn w B p h) (hb:Below w.heap.size w w'):ActionOwn w' B p h:=⟨a.op,a.side,a.place,a.target,a.ids.old hb,a.pairs.old hb⟩
theorem ActionOwn.setRow {w:World} {B:Nat} {p:ActionP} {h:ActionH} (a:ActionOwn w B p h) (g:Nat) (cs:Array Value) (hx:g<B):ActionOwn (w.setRow g cs) B p h:=⟨a.op,a.side,a.place,a.target,a.ids.setRow g cs hx,a.pairs.setRow g cs hx⟩
theorem ActionOwn.lower {w:World} {B:Nat} {p:ActionP} {h:ActionH} (a:ActionOwn w B p h) {B':Nat} (hB:B'≤B):ActionOwn w B' p h:=⟨a.op,a.side,a.place,a.target,a.ids.lower hB,a.pairs.lower hB⟩
section
variable {H:Type} {enc:TypeId×Value→H} {w:World}
theorem came_action {cs:List Value} (hlen:cs.length=6) (hc:Came enc Tryz.prog w 38 cs):∃(p:ActionP) (h:ActionH),cs=actionCells p h∧ActionAt w p h:=by
 have f0:=hc.field Tryz.underlying38 0 (by decide)
 have f1:=hc.field Tryz.underlying38 1 (by decide)
 have f2:=hc.field Tryz.underlying38 2 (by decide)
 have f3:=hc.field Tryz.underlying38 3 (by decide)
 have f4:=hc.field Tryz.underlying38 4 (by decide)
 have f5:=hc.field Tryz.underlying38 5 (by decide)
 match cs,hlen with
 | [c0,c1,c2,c3,c4,c5],_=>
  simp [i8c,int1,ints1,pairs1] at f0 f1 f2 f3 f4 f5
  obtain ⟨n0,rfl,w0⟩:=f0.int Tryz.underlying32
  obtain ⟨n1,rfl,w1⟩:=f1.int Tryz.underlying3
  obtain ⟨n2,rfl,w2⟩:=f2.int Tryz.underlying3
  obtain ⟨n3,rfl,w3⟩:=f3.int Tryz.underlying3
  obtain ⟨s4,l4,rfl,w4⟩:=came_ints' f4
  obtain ⟨s5,l5,rfl,w5⟩:=came_pairs' f5
  refine ⟨⟨n0,n1,n2,n3,l4,l5⟩,⟨s4,s5⟩,?_,⟨w0,w1,w2,w3,w4,w5⟩⟩
  rfl
end
end
section
abbrev Name:=ByteArray
structure FileP where
 name:Name
 b:List UInt8
 sure:Nat
 deriving DecidableEq
abbrev PlanP:=List (Name×Int)
structure DiskP where
 fs:List FileP
 down:Bool
 armed:Bool
 left:Int
 plan:PlanP
def keepI (plan:PlanP) (nm:Name):Int:=((plan.find? fun x=>x.1=nm).map fun x=>x.2).getD 0
def keepN (plan:PlanP) (f:FileP):Nat:=(if plan.any (fun x=>x.1=f.name) then min (max (keepI plan f.name) 0) ((f.b.length:Int)-f.sure) else 0).toNat
def crashF (plan:PlanP) (f:FileP):FileP:={f with b:=f.b.take (f.sure+keepN plan f),sure:=f.sure+keepN plan f}
def crashP (p:DiskP) (plan:PlanP):DiskP:={p with fs:=p.fs.map (crashF plan),down:=true,armed:=false}
def goesP (p:DiskP):DiskP×Int:=if p.armed=false then (p,0) else if 0<p.left then ({p with left:=p.left-1},0) else (crashP p p.plan,5)
def findP (p:DiskP) (nm:Name):Option FileP:=p.fs.find? fun f=>f.name=nm
def updF (fs:List FileP) (nm:Name) (g:FileP→FileP):List FileP:=fs.map fun f=>if f.name=nm then g f else f
def updP (p:DiskP) (nm:Name) (g:FileP→FileP):DiskP:={p with fs:=updF p.fs nm g}
def okName (nm:Name):Bool:=decide (nm.size≠0)&&decide (nm.size≤40)
def maxFileN:Nat:=1048576
def makeP (p:DiskP) (nm:Name):DiskP×Int:=
 if p.down then (p,5) else if okName nm=false then (p,2) else if (findP p nm).isSome then (p,101) else if 64≤p.fs.length then (p,100)
 else ({p with fs:=p.fs++ [⟨nm,[],0⟩]},0)
def mayP (p:DiskP) (nm:Name) (g:FileP→DiskP×Int):DiskP×Int:=
 if p.down then (p,5) else match findP p nm with
  |none=>(p,4)
  |some f=>g f
def appendP (p:DiskP) (nm:Name) (b:List UInt8):DiskP×Int:=
 mayP p nm fun f=>if maxFileN-f.b.length<b.length then (p,3) else goesP (updP p nm fun f=>{f with b:=f.b++b})
def syncP (p:DiskP) (nm:Name):DiskP×Int:=
 mayP p nm fun _=>if (goesP p).2=0 then (updP (goesP p).1 nm fun f=>{f with sure:=f.b.length},0) else goesP p
def cutP (p:DiskP) (nm:Name) (n:Int):DiskP×Int:=
 mayP p nm fun f=>if n<0∨(f.b.length:Int)<n then (p,2) else (updP p nm fun f=>{f with b:=f.b.take n.toNat,sure:=n.toNat},0)
def readP (p:DiskP) (nm:Name):List UInt8×Int:=if p.down then ([],5) else match findP p nm with
 |none=>([],4)
 |some f=>(f.b,0)
def crashAll (p:DiskP) (plan:PlanP):DiskP×Int:=if p.down then (p,5) else (crashP p plan,0)
def openP (p:DiskP):DiskP×Int:=if p.down then ({p with down:=false},0) else (p,2)
structure DiskOk (p:DiskP):Prop where
 names:(p.fs.map (·.name)).Nodup
 named:∀f∈p.fs,okName f.name=true
 sure:∀f∈p.fs,f.sure≤f.b.length
 size:∀f∈p.fs,f.b.length≤maxFileN
 count:p.fs.length≤64
 left:0≤p.left∧p.left≤9223372036854775807
theorem keepN_le (plan:PlanP) (f:FileP) (h:f.sure≤f.b.length):f.sure+keepN plan f≤f.b.length:=by
 unfold keepN
 split<;>omega
theorem crashF_len (plan:PlanP) (f:FileP) (h:f.sure≤f.b.length):(crashF plan f).b.length=f.sure+keepN plan f:=by
 have:=keepN_le plan f h
 simp [crashF];omega
theorem map_names {fs:List FileP} {g:FileP→FileP} (h:∀f∈fs,(g f).name=f.name):(fs.map g).map (·.name)=fs.map (·.name):=by
 rw [List.map_map]
 exact List.map_congr_left h
theorem DiskOk.map {p:DiskP} (h:DiskOk p) (g:FileP→FileP) (h1:∀f∈p.fs,(g f).name=f.name) (h2:∀f∈p.fs,(g f).sure≤(g f).b.length) (h3:∀f∈p.fs,(g f).b.length≤maxFileN) (d a:Bool) (l:Int) (hl:0≤l∧l≤9223372036854775807) (pl:PlanP):DiskOk ⟨p.fs.map g,d,a,l,pl⟩:=by
 refine ⟨?_,?_,?_,?_,by simpa using h.count,hl⟩
 ·show ((p.fs.map g).map (·.name)).Nodup
  rw [map_names h1];exact h.names
 ·intro f hf
  obtain ⟨f0,hf0,rfl⟩:=List.mem_map.1 hf
  rw [h1 f0 hf0];exact h.named f0 hf0
 ·intro f hf
  obtain ⟨f0,hf0,rfl⟩:=List.mem_map.1 hf
  exact h2 f0 hf0
 ·intro f hf
  obtain ⟨f0,hf0,rfl⟩:=List.mem_map.1 hf
  exact h3 f0 hf0
theorem DiskOk.upd {p:DiskP} (h:DiskOk p) (nm:Name) (g:FileP→FileP) (h1:∀f∈p.fs,(g f).name=f.name) (h2:∀f∈p.fs,f.name=nm→(g f).sure≤(g f).b.length) (h3:∀f∈p.fs,f.name=nm→(g f).b.length≤maxFileN):DiskOk (updP p nm g):=by
 refine h.map (fun f=>if f.name=nm then g f else f) (fun f hf=> ?_) (fun f hf=> ?_) (fun f hf=> ?_) _ _ _ h.left _
 all_goals
  (try dsimp only)
  by_cases e:f.name=nm
  ·rw [if_pos e]
   first|exact h1 f hf|exact h2 f hf e|exact h3 f hf e
  ·rw [if_neg e]
   try (first|rfl|exact h.sure f hf|exact h.size f hf)
theorem find_name {fs:List FileP} (hn:(fs.map (·.name)).Nodup) {f:FileP} (hf:f∈fs):fs.find? (fun x=>x.name=f.name)=some f:=by
 induction fs with
 |nil=>cases hf
 |cons x l ih=>
  simp only [List.map_cons,List.nodup_cons] at hn
  rcases List.mem_cons.1 hf with rfl|hf'
  ·simp
  ·have hne:¬x.name=f.name:=fun e=>hn.1 (e▸List.mem_map_of_mem hf')
   rw [List.find?_cons,decide_eq_false hne]
   exact ih hn.2 hf'
theorem findP_mem {p:DiskP} {nm:Name} {f:FileP} (h:findP p nm=some f):f∈p.fs∧f.name=nm:=by
 refine ⟨List.mem_of_find?_eq_some h,?_⟩
 have:=List.find?_some h
 simpa using this
end
section
open Go.RowKit
def be8 (n:Int):List UInt8:=(List.range 8).map fun i=>⟨((BitVec.ofInt 64 n)>>>(56-8*i)).setWidth 8⟩
theorem be8_byte (n:Int) (k:Nat):IntKind.u8.wrap (IntKind.u64.wrap n/2^k)=U8 ⟨((BitVec.ofInt 64 n)>>>k).setWidth 8⟩:=by
 have e:IntKind.u64.wrap n=U64 (BitVec.ofInt 64 n):=by
  simp only [U64,BitVec.toNat_ofInt,IntKind.wrap,IntKind.bits,IntKind.signed]
  simp
  omega
 rw [e,U64_shr_pow]
 have:=U64_byte (BitVec.ofInt 64 n>>>k)
 rw [←this]
 simp [IntKind.wrap,IntKind.bits,IntKind.signed]
theorem be8_take (n:Int) (i:Nat) (h:i<8):(be8 n).take (i+1)=(be8 n).take i++ [⟨((BitVec.ofInt 64 n)>>>(56-8*i)).setWidth 8⟩]:=by
 rw [List.take_succ_eq_append_getElem (by simp [be8];exact h)]
 simp [be8]
theorem be8_length (n:Int):(be8 n).length=8:=by simp [be8]
def tr1 (b:Bool):List UInt8:=[if b then 1 else 0]
def encL (l:List Int):List UInt8:=be8 l.length++l.flatMap be8
def thingB (u:ThingL):List UInt8:=be8 u.id++be8 u.card++be8 u.harm++tr1 u.tired
def encU (l:List ThingL):List UInt8:=be8 l.length++l.flatMap thingB
def pairB (u:PairL):List UInt8:=be8 u.at_++be8 u.by_
def encP (l:List PairL):List UInt8:=be8 l.length++l.flatMap pairB
def actionI (p:ActionP):List UInt8:=be8 p.op++be8 p.side++be8 p.place++be8 p.target++encL p.ids++encP p.pairs
abbrev Rd (α:Type):=Except Nat (α×Nat)
def thn {α β:Type} (x:Rd α) (f:α→Nat→Rd β):Rd β:=match x with
 | .error p=> .error p
 | .ok y=>f y.1 y.2
def rdB (l:List UInt8):BitVec 64:=l.foldl (fun n y=>n<<<8|||y.toBitVec.setWidth 64) 0
def rdNum (bs:List UInt8) (at_:Nat):Rd Int:=
 if bs.length<at_+8 then .error bs.length else .ok ((rdB ((bs.drop at_).take 8)).toInt,at_+8)
def rdSmall (bs:List UInt8) (at_:Nat):Rd Int:=match rdNum bs at_ with
 | .error p=> .error p
 | .ok (n,a)=>if n< -128∨127<n then .error at_ else .ok (n,a)
def rdMany {α:Type} (one:Nat→Rd α):Nat→Nat→Rd (List α)
 |0,a=> .ok ([],a)
 |n+1,a=>match one a with
  | .error p=> .error p
  | .ok (x,b)=>match rdMany one n b with
   | .error p=> .error p
   | .ok (l,c)=> .ok (x::l,c)
def rdList {α:Type} (bs:List UInt8) (each:Nat) (one:Nat→Rd α) (at_:Nat):Rd (List α):=match rdNum bs at_ with
 | .error p=> .error p
 | .ok (n,a)=>if n<0∨((bs.length:Int)-a).tdiv each<n then .error at_ else rdMany one n.toNat a
def rdPair (bs:List UInt8) (at_:Nat):Rd PairL:=
 thn (rdNum bs at_) fun i a=>
 thn (rdNum bs a) fun c a=>
 .ok (⟨i,c⟩,a)
def rdInts (bs:List UInt8) (at_:Nat):Rd (List Int):=rdList bs 8 (rdNum bs) at_
def rdPairs (bs:List UInt8) (at_:Nat):Rd (List PairL):=rdList bs 16 (rdPair bs) at_
def rdAction (bs:List UInt8) (at_:Nat):Rd ActionP:=
 thn (rdSmall bs at_) fun op a=>
 thn (rdNum bs a) fun side a=>
 thn (rdNum bs a) fun place a=>
 thn (rdNum bs a) fun target a=>
 thn (rdInts bs a) fun ids a=>
 thn (rdPairs bs a) fun pairs a=>
 .ok (⟨op,side,place,target,ids,pairs⟩,a)
def rdWhole {α:Type} (one:List UInt8→Nat→Rd α) (bs:List UInt8):Except Nat α:=match one bs 0 with
 | .error p=> .error p
 | .ok (x,a)=>if a<bs.length then .error a else .ok x
end
end Go.Proofs.YtioigihakjlopaaGreat
