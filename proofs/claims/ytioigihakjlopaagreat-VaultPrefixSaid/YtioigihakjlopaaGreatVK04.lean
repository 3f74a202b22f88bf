/- Texts put together and cut to what is used: Mems, OwnFresh. -/
import Derived.Test.YtioigihakjlopaaGreatVK03
import Derived.Laws.CopyRow
import Derived.OwnWalk
import Derived.ArgAppend
namespace Go.Proofs.YtioigihakjlopaaGreat
set_option linter.unusedVariables false
set_option linter.unusedSimpArgs false
section
open Go.RowKit
structure GexAt (P:Program) (l:List Oper) (Q:Exit→Act→World→Prop) (order:List Nat) (a:Act) (w:World):Prop where
 out:wpLexR P l.toArray Q Old order a w
section
variable {P:Program} {Q:Exit→Act→World→Prop} {a:Act} {w:World}
theorem wp_region_g (order:List Nat) {id:Nat} {l:List Oper} (hm:P.follows .mixedOrders=true) (hB:lexR l.toArray order=true)
  (hQ:∀c a d v w,Q (.panic c) (a.put d v) w→Q (.panic c) a w)
  (h:GexAt P l Q order a w.drew):(Code.region id l.toArray true).wp P Q a w:=wp_region_old order hm hB hQ h.out
variable {l:List Oper} {rest:List Nat} {i:Nat} {o:Oper}
theorem gex_quiet {v:Value} (ho:nthOp l i=some o) (hl:loudOp o.op=false) (hw:Region.wanted o (yielded l.toArray a.tmps)=true)
  (hy:∀w',Old w w'→(execOp a.eval o).run P w'= .ok (.value v) w') (h:GexAt P l Q rest (a.put o.dst v) w):GexAt P l Q (i::rest) a w:=⟨lex_quiet ho hl hw hy h.out⟩
theorem gex_skip (ho:nthOp l i=some o) (hw:Region.wanted o (yielded l.toArray a.tmps)=false) (h:GexAt P l Q rest (a.put o.dst undef) w):GexAt P l Q (i::rest) a w:=⟨lex_skip ho hw h.out⟩
theorem gex_loud (ho:nthOp l i=some o) (hl:loudOp o.op=true) (hw:Region.wanted o (yielded l.toArray a.tmps)=true)
  (h:∀K:Act→World→Prop,(∀a' w',Below w.heap.size w w'→GexAt P l Q rest a' w'→K a' w')→o.wp P a w K Q):GexAt P l Q (i::rest) a w:=
 ⟨lex_loud ho hl hw fun K hK=>h K fun a' w' h1 h2=>hK a' w' h1 h2.out⟩
theorem gex_nil (h:Q .normal a w):GexAt P l Q [] a w:=⟨lex_nil h⟩
end
open Go.RowKit
theorem wp_append_row {P:Program} {w:World} {o:Oper} {a:Act} {K:Act→World→Prop} {Q:Exit→Act→World→Prop} (s x:Operand) (t:TypeId)
  (ho:o.op= .call {callee:= .builtin .append,args:= #[s,x],argTypes:= #[t,t]}) {e:TypeId} {size bytes:Nat} (hT:RowType P t e size bytes)
  {B:Nat} {sa:Option Addr} {n sc:Nat} {xs:List Value} (hs:a.eval s= .slice sa n sc) (hown:Own w B e size sa n sc xs)
  {xa:Option Addr} {m xc:Nat} {news:List Value} (hx:a.eval x= .slice xa m xc) (hrow:RowAt w xa news) (hl:news.length=m*size) (h1:∀u∈news,u.oneCell'=true)
  (h63:n+m≤maxLen) (hbytes:(n+m)*bytes≤140737488355328) (hbase:B≤w.heap.size)
  (h:∀a' c' w',Own w' B e size a' (n+m) c' (xs++news)→w.grownBy w' (Value.slice sa n sc).ownBlock→K (a.put o.dst (.slice a' (n+m) c')) w'):o.wp P a w K Q:=by
 obtain ⟨ht,hsz,i,z,hi,hz,hsize,hby,hzs⟩:=hT
 have form:∀(v':Value) (w':World),w'.ownsRow B e size v' (n+m) (xs++news)→∃a' c',v'= .slice a' (n+m) c':=by
  intro v' w' h'
  rcases h'.2 with ⟨rfl,hn⟩|⟨g,cap,cur,rfl,_⟩
  ·exact ⟨none,0,by rw [hn]⟩
  ·exact ⟨_,_,rfl⟩
 match xa,hx,hrow with
 |none,hx,hrow=>
  have hn0:news=[]:=by
   cases news with
   |nil=>rfl
   |cons u r=>obtain ⟨b,o,he,_⟩:=hrow 0 (by simp);cases he
  subst hn0
  have hm:m=0:=by
   simp only [List.length_nil] at hl
   rcases Nat.mul_eq_zero.1 hl.symm with h|h
   ·exact h
   ·omega
  subst hm
  have hrun:=run_append_none (P:=P) (w:=w) B t o.type e i size ht hi (.slice sa n sc) n xc xs hown
  unfold Oper.wp
  simp [execOp,ho,resolve,invoke,builtin,hs,hx,hrun,Result.andThen]
  have hh:=h sa sc w (by simpa using hown) (World.grownBy.refl _ _)
  simp at hh
  exact hh
 |some ad,hx,hrow=>
  refine wp_append_own w s x t ho B e i z size bytes ht hi hz hsize hby hzs hsz (.slice sa n sc) n xs hs hown ad m xc news hx hl ?_ h1 h63 hbytes hbase ?_
  ·intro j u hu
   have hj:j<news.length:=(List.getElem?_eq_some_iff.1 hu).1
   obtain ⟨b,o,he,hc⟩:=hrow j hj
   obtain rfl:=Option.some.inj he
   rw [Addr.add_mid,hc,←hu,List.getElem?_eq_getElem hj]
  ·intro v' w' hown' hg _
   obtain ⟨a',c',rfl⟩:=form v' w' hown'
   exact h a' c' w' hown' hg
section
variable {P:Program} {Q:Exit→Act→World→Prop} {a:Act} {w:World} {B:Nat}
theorem wp_region_kept (B:Nat) (order:List Nat) {id:Nat} {l:List Oper} (hm:P.follows .mixedOrders=true) (hB:lexR l.toArray order=true)
  (hQ:∀c a d v w,Q (.panic c) (a.put d v) w→Q (.panic c) a w)
  (h:wpLexR P l.toArray Q (Kept B) order a w.drew):(Code.region id l.toArray true).wp P Q a w:=
 wp_region_lexR (R:=Kept B) order (fun _=>Below.refl _ _) (fun _ _ _ h1 h2=>Below.trans h1 h2) hm hB hQ h
variable {l:List Oper} {rest:List Nat} {i:Nat} {o:Oper}
theorem kept_quiet {v:Value} (ho:nthOp l i=some o) (hl:loudOp o.op=false) (hw:Region.wanted o (yielded l.toArray a.tmps)=true)
  (hy:∀w',Kept B w w'→(execOp a.eval o).run P w'= .ok (.value v) w') (h:wpLexR P l.toArray Q (Kept B) rest (a.put o.dst v) w):wpLexR P l.toArray Q (Kept B) (i::rest) a w:=by
 rw [nthOp_eq] at ho
 simp only [wpLexR,ho,hw,hl,if_true]
 exact ⟨v,hy,h⟩
theorem kept_skip (ho:nthOp l i=some o) (hw:Region.wanted o (yielded l.toArray a.tmps)=false) (h:wpLexR P l.toArray Q (Kept B) rest (a.put o.dst undef) w):wpLexR P l.toArray Q (Kept B) (i::rest) a w:=by
 rw [nthOp_eq] at ho
 simp only [wpLexR,ho,hw]
 exact h
theorem kept_loud (ho:nthOp l i=some o) (hl:loudOp o.op=true) (hw:Region.wanted o (yielded l.toArray a.tmps)=true)
  (h:∀K:Act→World→Prop,(∀a' w',Kept B w w'→wpLexR P l.toArray Q (Kept B) rest a' w'→K a' w')→o.wp P a w K Q):wpLexR P l.toArray Q (Kept B) (i::rest) a w:=by
 rw [nthOp_eq] at ho
 simp only [wpLexR,ho,hw,hl,if_true]
 exact h _ (fun a' w' h1 h2=>⟨h1,h2⟩)
theorem kept_nil {ops:Array Oper} (h:Q .normal a w):wpLexR P ops Q (Kept B) [] a w:=h
end
open Go.RowKit
open Go.RowKit
theorem wp_copy_row {P:Program} {o:Oper} {a:Act} {w:World} {K:Act→World→Prop} {Q:Exit→Act→World→Prop} (d s:Operand) (dT sT:TypeId)
  (ho:o.op= .call {callee:= .builtin .copy,args:= #[d,s],argTypes:= #[dT,sT]}) {elem:TypeId} (hu:P.underlying dT=some (.slice elem)) (hsz:(P.info? elem).map (·.size)=some 1)
  {g off dLen dCap:Nat} {ad:Addr} {sLen sCap:Nat} (hd:a.eval d= .slice (some ⟨g,off,none⟩) dLen dCap) (hs:a.eval s= .slice (some ad) sLen sCap)
  {cur:Array Value} {t:TypeId} (hg:Blk w g cur t) {cs:List Value} (hn:cs.length=Nat.min sLen dLen)
  (hsrc:∀j v,cs[j]? =some v→w.cell? (ad.add j)=some v) (hfit:off+cs.length≤cur.size) (h1:∀v∈cs,v.oneCell'=true)
  (h:K (a.put o.dst (goInt cs.length)) (w.setRow g (splice cur off cs.toArray))):o.wp P a w K Q:=by
 have hrun:=run_copy_row (P:=P) w dT sT o.type elem g off dLen dCap ad sLen sCap cur t cs hu hsz hg hn hsrc hfit h1
 unfold Oper.wp
 simp [execOp,ho,resolve,invoke,builtin,hd,hs,hrun,Result.andThen]
 simp [splice] at h
 exact h
theorem wpList_copy_row {P:Program} {o:Oper} {a:Act} {w:World} {ops:Array Oper} {rest:List Oper} {Q:Exit→Act→World→Prop} (hgd:o.guard=none) (d s:Operand) (dT sT:TypeId)
  (ho:o.op= .call {callee:= .builtin .copy,args:= #[d,s],argTypes:= #[dT,sT]}) {elem:TypeId} (hu:P.underlying dT=some (.slice elem)) (hsz:(P.info? elem).map (·.size)=some 1)
  {g off dLen dCap:Nat} {ad:Addr} {sLen sCap:Nat} (hd:a.eval d= .slice (some ⟨g,off,none⟩) dLen dCap) (hs:a.eval s= .slice (some ad) sLen sCap)
  {cur:Array Value} {t:TypeId} (hg:Blk w g cur t) {cs:List Value} (hn:cs.length=Nat.min sLen dLen)
  (hsrc:∀j v,cs[j]? =some v→w.cell? (ad.add j)=some v) (hfit:off+cs.length≤cur.size) (h1:∀v∈cs,v.oneCell'=true)
  (h:wpList P ops Q rest (a.put o.dst (goInt cs.length)) (w.setRow g (splice cur off cs.toArray))):wpList P ops Q (o::rest) a w:=
 wpList_plain hgd fun _ hK=>wp_copy_row d s dT sT ho hu hsz hd hs hg hn hsrc hfit h1 (hK _ _ h)
theorem RowAt.src {w:World} {ad:Addr} {vs:List Value} (h:RowAt w (some ad) vs) (n:Nat):∀j v,(vs.take n)[j]? =some v→w.cell? (ad.add j)=some v:=by
 intro j v hv
 rw [List.getElem?_take] at hv
 split at hv
 ·obtain ⟨hj,rfl⟩:=List.getElem?_eq_some_iff.1 hv
  obtain ⟨b,o,e,hc⟩:=h j hj
  obtain rfl:=Option.some.inj e
  rw [Addr.add_mid];exact hc
 ·cases hv
open Go.RowKit
def vL (n:Nat) (f:Nat→Value):List Value:=(List.range n).map f
def vA (n:Nat) (f:Nat→Value):Array Value:=(vL n f).toArray
section
variable {n:Nat} {f g:Nat→Value}
theorem vL_length (n:Nat) (f:Nat→Value):(vL n f).length=n:=by simp [vL]
theorem vA_size (n:Nat) (f:Nat→Value):(vA n f).size=n:=by simp [vA,vL]
theorem vA_toList (n:Nat) (f:Nat→Value):(vA n f).toList=vL n f:=rfl
theorem vA_at (f:Nat→Value) {i:Nat} (h:i<n):(vA n f)[i]? =some (f i):=by simp [vA,vL,h]
theorem vA_none (f:Nat→Value) {i:Nat} (h:n≤i):(vA n f)[i]? =none:=Array.getElem?_eq_none (by rw [vA_size];exact h)
theorem vL_at (f:Nat→Value) {i:Nat} (h:i<n):(vL n f)[i]? =some (f i):=by simp [vL,h]
theorem vL_eq (h:∀i,i<n→f i=g i):vL n f=vL n g:=by
 unfold vL
 apply List.map_congr_left
 intro i hi
 rw [h i (List.mem_range.1 hi)]
theorem vA_eq (h:∀i,i<n→f i=g i):vA n f=vA n g:=by unfold vA;rw [vL_eq h]
theorem vA_of {cs:Array Value} (hs:cs.size=n) (h:∀i,i<n→cs[i]? =some (f i)):cs=vA n f:=by
 apply Array.ext_getElem?
 intro i
 by_cases hi:i<n
 ·rw [h i hi,vA_at f hi]
 ·rw [vA_none f (by omega),Array.getElem?_eq_none (by omega)]
theorem vL_of {cs:List Value} (hs:cs.length=n) (h:∀i,i<n→cs[i]? =some (f i)):cs=vL n f:=by
 apply List.ext_getElem?
 intro i
 by_cases hi:i<n
 ·rw [h i hi,vL_at f hi]
 ·rw [List.getElem?_eq_none (by omega),List.getElem?_eq_none (by rw [vL_length];omega)]
theorem vA_set (f:Nat→Value) {i:Nat} (v:Value) (_h:i<n):(vA n f).setIfInBounds i v=vA n fun j=>if j=i then v else f j:=by
 refine vA_of (by simp [vA_size]) fun j hj=> ?_
 by_cases e:i=j
 ·subst e
  simp [vA_size,hj]
 ·rw [Array.getElem?_setIfInBounds_ne e,vA_at _ hj,if_neg (Ne.symm e)]
theorem vA_one (h:∀i,i<n→(f i).oneCell'=true):(vA n f).toList.all (·.oneCell')=true:=by
 rw [vA_toList,List.all_eq_true]
 intro v hv
 obtain ⟨i,hi,rfl⟩:=List.mem_map.1 hv
 exact h i (List.mem_range.1 hi)
theorem vA_part (f:Nat→Value) {o m:Nat} (h:o+m≤n):((vA n f).toList.drop o).take m=vL m fun j=>f (o+j):=by
 refine vL_of (by simp [vA_toList,vL_length];omega) fun j hj=> ?_
 rw [List.getElem?_take_of_lt hj,List.getElem?_drop,Array.getElem?_toList,vA_at _ (by omega)]
theorem vA_splice (f g:Nat→Value) {o m:Nat} (h:o+m≤n):splice (vA n f) o (vA m g)=vA n fun j=>if o≤j∧j<o+m then g (j-o) else f j:=by
 refine vA_of (by simp [splice,vA_size];omega) fun j hj=> ?_
 simp only [splice,vA_size]
 have hl:(List.take o (vA n f).toList++(vA m g).toList++List.drop (o+m) (vA n f).toList).toArray[j]? =(List.take o (vA n f).toList++((vA m g).toList++List.drop (o+m) (vA n f).toList))[j]? :=by simp
 rw [hl]
 by_cases h1:j<o
 ·rw [List.getElem?_append_left (by simp [vA_size];omega),List.getElem?_take_of_lt h1,Array.getElem?_toList,vA_at _ hj,if_neg (by omega)]
 ·rw [List.getElem?_append_right (by simp [vA_size];omega)]
  have e:(List.take o (vA n f).toList).length=o:=by simp [vA_size];omega
  rw [e]
  by_cases h2:j<o+m
  ·rw [List.getElem?_append_left (by simp [vA_size];omega),Array.getElem?_toList,vA_at _ (by omega),if_pos ⟨by omega,h2⟩]
  ·rw [List.getElem?_append_right (by simp [vA_size];omega),List.getElem?_drop]
   have e2:o+m+(j-o-(vA m g).toList.length)=j:=by simp [vA_size];omega
   rw [e2,Array.getElem?_toList,vA_at _ hj,if_neg (by omega)]
theorem splice_whole (old new:Array Value) (h:old.size=new.size):splice old 0 new=new:=by
 have e:List.drop new.size old.toList=[]:=List.drop_eq_nil_of_le (by simp [h])
 simp [splice,e]
theorem Blk.ofV {w:World} {b:Nat} {ty:TypeId} (h:Blk w b (vA n f) ty) (e:∀i,i<n→f i=g i):Blk w b (vA n g) ty:=by rw [←vA_eq e];exact h
theorem Blk.setV {w:World} {b k:Nat} {ty:TypeId} (h:Blk w b (vA n f) ty) (hk:k<n) (v:Value):Blk (w.setCell ⟨b,k,none⟩ v) b (vA n fun j=>if j=k then v else f j) ty:=by
 have:=h.set k v
 rwa [vA_set _ _ hk] at this
theorem Blk.atV {w:World} {b k:Nat} {ty:TypeId} (h:Blk w b (vA n f) ty) (hk:k<n) {v:Value} (hv:f k=v):w.cell? ⟨b,k,none⟩=some v:=by rw [h.rule,vA_at _ hk,hv]
end
theorem g_forget {G:World→Prop} {W:World} (F:World→Prop) (hF:F W) (h:∀W0,F W0→G W0):G W:=h W hF
theorem zero_run {P:Program} {ty:TypeId} {v:Value} (h:(P.info? ty).bind (·.zero)=some v) (W:World):(zeroValue ty).run P W= .ok v W:=by
 cases hq:P.info? ty with
 |none=>simp [hq] at h
 |some i=>
  have hz:i.zero=some v:=by simpa [hq] using h
  simp [zeroValue,typeInfo,hq,hz]
theorem sized_run {P:Program} {ty:TypeId} {n:Nat} (h:(P.info? ty).map (·.size)=some n) (W:World):(sizeOf ty).run P W= .ok n W:=by
 cases hq:P.info? ty with
 |none=>simp [hq] at h
 |some i=>simp [hq] at h;simp [sizeOf,typeInfo,hq,h]
def wv (a:BitVec 32):Value:= .int .u32 (U32 a)
open Go.RowKit
section
variable {a b c w:World} {g:Nat}
theorem only_trans {x:Option Nat} (h:a.grownBy b x) (k:b.grownBy c x):a.grownBy c x:=
 ⟨k.os.trans h.os,k.tape.trans h.tape,k.output.trans h.output,Nat.le_trans h.size k.size,fun i hi hn=>(k.block i (Nat.lt_of_lt_of_le hi h.size) hn).trans (h.block i hi hn)⟩
theorem only_drew {x:Option Nat} (h:a.grownBy w x):a.grownBy w.drew x:=⟨h.os,h.tape,h.output,h.size,h.block⟩
theorem only_alloc {x:Option Nat} (h:a.grownBy w x) (o:Obj):a.grownBy (w.alloc o) x:=only_trans h (World.grownBy_alloc w o x)
theorem only_setCell (h:a.grownBy w (some g)) (i:Nat) (u:Value):a.grownBy (w.setCell ⟨g,i,none⟩ u) (some g):=
 ⟨h.os,h.tape,h.output,by simpa [World.setCell] using h.size,fun k hk hne=>(heap_setCell_other w ⟨g,i,none⟩ k u (by rintro rfl;exact hne rfl)).trans (h.block k hk hne)⟩
theorem only_setRow (h:a.grownBy w (some g)) (cs:Array Value):a.grownBy (w.setRow g cs) (some g):=
 ⟨h.os,h.tape,h.output,by simpa [World.setRow] using h.size,fun k hk hne=>(Go.setRow_other w g k cs (by rintro rfl;exact hne rfl)).trans (h.block k hk hne)⟩
theorem only_new {x:Option Nat} (h:a.grownBy w x) {g' i:Nat} (hg:a.heap.size≤g') (u:Value):a.grownBy (w.setCell ⟨g',i,none⟩ u) x:=
 ⟨h.os,h.tape,h.output,by simpa [World.setCell] using h.size,fun k hk hne=>(heap_setCell_other w ⟨g',i,none⟩ k u (by show k≠g';omega)).trans (h.block k hk hne)⟩
theorem only_newRow {x:Option Nat} (h:a.grownBy w x) {g':Nat} (hg:a.heap.size≤g') (cs:Array Value):a.grownBy (w.setRow g' cs) x:=
 ⟨h.os,h.tape,h.output,by simpa [World.setRow] using h.size,fun k hk hne=>(Go.setRow_other w g' k cs (by omega)).trans (h.block k hk hne)⟩
theorem only_below {x:Option Nat} (h:Below a.heap.size a w):a.grownBy w x:=⟨h.os,h.tape,h.output,h.size,fun i hi _=>h.block i hi⟩
theorem only_then {x:Option Nat} (h:a.grownBy w x) (k:Below w.heap.size w b):a.grownBy b x:=only_trans h (only_below k)
theorem below_only {B:Nat} (h:Below B a w) (hz:B≤w.heap.size) (k:w.grownBy b (some g)) (hg:B≤g):Below B a b:=
 h.grown k hz (fun j hj=>by cases hj;exact hg)
end
open Go.RowKit
structure Mid (w:World) (B:Nat) (e:TypeId) (a:Option Addr) (n c:Nat) (vs:List Value):Prop where
 len:vs.length=n
 le:n≤c
 max:c≤maxLen
 nil:a=none→c=0
 row:0<c→∃r o cur,a=some ⟨r,o,none⟩∧B≤r∧Blk w r cur e∧o+c≤cur.size∧(cur.toList.drop o).take n=vs
def rowB (a:Option Addr) (c:Nat):Option Nat:=if c=0 then none else a.map (·.block)
section
variable {w w':World} {B:Nat} {e:TypeId} {a:Option Addr} {n c:Nat} {vs:List Value}
theorem rowB_some {r o:Nat} (hc:0<c):rowB (some ⟨r,o,none⟩) c=some r:=by simp [rowB];omega
theorem Mid.nil' (w:World) (B:Nat) (e:TypeId):Mid w B e none 0 0 []:=⟨rfl,Nat.le_refl _,by unfold maxLen;omega,fun _=>rfl,fun h=>by omega⟩
theorem Mid.lower {B':Nat} (h:Mid w B e a n c vs) (hB:B'≤B):Mid w B' e a n c vs:=
 ⟨h.len,h.le,h.max,h.nil,fun hc=>by obtain ⟨r,o,cur,h1,h2,h3⟩:=h.row hc;exact ⟨r,o,cur,h1,Nat.le_trans hB h2,h3⟩⟩
theorem Mid.of (h:Own w B e 1 a n c vs):Mid w B e a n c vs:=by
 refine ⟨by have:=h.length;omega,h.le,h.cap_le,?_,fun hc=> ?_⟩
 ·rintro rfl
  rcases h.2 with ⟨hv,_⟩|⟨g,cap,cur,hv,_⟩
  ·simp only [Value.slice.injEq] at hv;omega
  ·simp at hv
 ·rcases h.2 with ⟨hv,hn⟩|⟨g,cap,cur,hv,hB,hg,_,_,hs,ht⟩
  ·simp only [Value.slice.injEq] at hv;omega
  ·simp only [Value.slice.injEq] at hv
   obtain ⟨rfl,-,rfl⟩:=hv
   exact ⟨g,0,cur,rfl,hB,hg,by omega,by simpa using ht⟩
theorem Mid.keep (h:Mid w B e a n c vs) (hk:∀r,rowB a c=some r→w'.heap[r]? =w.heap[r]?):Mid w' B e a n c vs:=
 ⟨h.len,h.le,h.max,h.nil,fun hc=>by
  obtain ⟨r,o,cur,h1,h2,h3,h4⟩:=h.row hc
  refine ⟨r,o,cur,h1,h2,?_,h4⟩
  unfold Blk
  rw [hk r (by rw [h1];exact rowB_some hc)]
  exact h3⟩
theorem Mid.lt (h:Mid w B e a n c vs) {r:Nat} (hr:rowB a c=some r):B≤r∧r<w.heap.size∧∃cur,Blk w r cur e:=by
 have hc:0<c:=by
  rcases Nat.eq_zero_or_pos c with h0|h0
  ·subst h0;simp [rowB] at hr
  ·exact h0
 obtain ⟨r',o,cur,h1,h2,h3,_⟩:=h.row hc
 rw [h1,rowB_some hc] at hr
 cases hr
 exact ⟨h2,h3.lt,cur,h3⟩
theorem Mid.old (h:Mid w B e a n c vs) (hb:Below w.heap.size w w'):Mid w' B e a n c vs:=h.keep fun r hr=>hb.block r (h.lt hr).2.1
theorem Mid.drew (h:Mid w B e a n c vs):Mid w.drew B e a n c vs:=h.keep fun _ _=>rfl
theorem Mid.alloc (h:Mid w B e a n c vs) (o:Obj):Mid (w.alloc o) B e a n c vs:=h.old ((Below.refl _ _).alloc (Nat.le_refl _) o)
theorem Mid.setCell (h:Mid w B e a n c vs) {g:Nat} {cs:Array Value} {t:TypeId} (hB:Blk w g cs t) (hne:t≠e) (i:Nat) (v:Value):Mid (w.setCell ⟨g,i,none⟩ v) B e a n c vs:=h.keep fun r hr=>by
 obtain ⟨_,_,cur,hcur⟩:=h.lt hr
 exact heap_setCell_other w ⟨g,i,none⟩ r v (by rintro rfl;exact (Blk.ne hcur hB (Ne.symm hne)) rfl)
theorem Mid.setRow (h:Mid w B e a n c vs) {g:Nat} {cs:Array Value} {t:TypeId} (hB:Blk w g cs t) (hne:t≠e) (cs':Array Value):Mid (w.setRow g cs') B e a n c vs:=h.keep fun r hr=>by
 obtain ⟨_,_,cur,hcur⟩:=h.lt hr
 exact Go.setRow_other w g r cs' (Blk.ne hcur hB (Ne.symm hne))
theorem Mid.read (h:Mid w B e a n c vs):RowAt w a vs:=by
 intro i hi
 have hc:0<c:=by have:=h.le;have:=h.len;omega
 obtain ⟨r,o,cur,rfl,_,h3,h4,h5⟩:=h.row hc
 refine ⟨r,o,rfl,?_⟩
 rw [h3.rule]
 have h6:vs[i]? =some vs[i]:=List.getElem?_eq_getElem hi
 have hi':i<n:=by rw [←h.len];exact hi
 rw [←h6,←h5,List.getElem?_take_of_lt hi',List.getElem?_drop,Array.getElem?_toList]
def cutA (a:Option Addr) (c k:Nat):Option Addr:=if c=k then a else a.map (·.add (k*1))
theorem Mid.cut (h:Mid w B e a n c vs) (k:Nat) (hk:k≤n):Mid w B e (cutA a c k) (n-k) (c-k) (vs.drop k):=by
 have hle:=h.le
 have hmax:=h.max
 refine ⟨by rw [List.length_drop,h.len],by omega,by omega,fun hn=> ?_,fun hc=> ?_⟩
 ·unfold cutA at hn
  split at hn
  ·omega
  ·have:=h.nil (by simpa using hn);omega
 ·obtain ⟨r,o,cur,rfl,h2,h3,h4,h5⟩:=h.row (by omega)
  refine ⟨r,o+k,cur,?_,h2,h3,by omega,?_⟩
  ·unfold cutA
   rw [if_neg (by omega),Option.map_some,Addr.add_mid,Nat.mul_one]
  ·rw [←h5,List.drop_take,List.drop_drop]
theorem rowB_cut (a:Option Addr) (c k:Nat):rowB (cutA a c k) (c-k)=none∨rowB (cutA a c k) (c-k)=rowB a c:=by
 unfold rowB cutA
 by_cases h:c-k=0
 ·left;rw [if_pos h]
 ·right
  rw [if_neg h,if_neg (show ¬c=k by omega),if_neg (show ¬c=0 by omega)]
  cases a with
  |none=>rfl
  |some ad=>
   obtain ⟨b,o,sp⟩:=ad
   by_cases hk:k=0<;>cases sp<;>simp [Addr.add,hk]
end
section
variable {P:Program}
theorem run_append_mid {w:World} {B:Nat} {e:TypeId} {sa:Option Addr} {n sc:Nat} {vs:List Value} (t ty:TypeId) {bytes:Nat} (hT:RowType P t e 1 bytes) (h:Mid w B e sa n sc vs)
  {xa:Option Addr} {m xc:Nat} {news:List Value} (hrow:RowAt w xa news) (hl:news.length=m) (h1:∀u∈news,u.oneCell'=true) (h63:n+m≤maxLen) (hbytes:(n+m)*bytes≤140737488355328) (hB:B≤w.heap.size):
  ∃a' c' w',(Builtin.append_ #[t,t] ty #[.slice sa n sc,.slice xa m xc]).run P w= .ok (.slice a' (n+m) c') w'∧Mid w' B e a' (n+m) c' (vs++news)∧w.grownBy w' (rowB sa sc)∧
   (rowB a' c'=rowB sa sc∨∃b,rowB a' c'=some b∧w.heap.size≤b):=by
 obtain ⟨ht,hsz,i,z,hi,hz,hsize,hby,hzs⟩:=hT
 by_cases hm:m=0
 ·subst hm
  obtain rfl:news=[]:=List.eq_nil_of_length_eq_zero hl
  refine ⟨sa,sc,w,?_,by simpa using h,World.grownBy.refl _ _,.inl rfl⟩
  have hle:=h.le
  cases sa with
  |none=>
   have h0:=h.nil rfl
   subst h0
   obtain rfl:n=0:=by omega
   cases xa with
   |none=>simp [Builtin.append_,run_underlying ht,sizeOf,typeInfo,hi,Builtin.lenOf,Builtin.firstCells]
   |some xad=>
    have hfc:=run_firstCells_some (P:=P) w i.size 0 xad 0 xc [] (by simp) (fun j u hu=>by simp at hu)
    simp [Builtin.append_,run_underlying ht,sizeOf,typeInfo,hi,Builtin.lenOf,hfc]
  |some ad=>
   cases xa with
   |none=>simp [Builtin.append_,run_underlying ht,sizeOf,typeInfo,hi,Builtin.lenOf,Builtin.firstCells,hle,storeCells]
   |some xad=>
    have hfc:=run_firstCells_some (P:=P) w i.size 0 xad 0 xc [] (by simp) (fun j u hu=>by simp at hu)
    simp [Builtin.append_,run_underlying ht,sizeOf,typeInfo,hi,Builtin.lenOf,hfc,hle,storeCells]
 ·obtain ⟨xad,rfl⟩:∃ad,xa=some ad:=by
   obtain ⟨b,o,hx,_⟩:=hrow 0 (by omega)
   exact ⟨_,hx⟩
  have hnews:∀j u,news[j]? =some u→w.cell? (xad.add j)=some u:=fun j u hu=>by
   obtain ⟨hj,rfl⟩:=List.getElem?_eq_some_iff.1 hu
   obtain ⟨b,o,he,hc⟩:=hrow j hj
   obtain rfl:=Option.some.inj he
   rw [Addr.add_mid];exact hc
  by_cases hroom:n+m≤sc
  ·obtain ⟨r,o,cur,rfl,h2,h3,h4,h5⟩:=h.row (by omega)
   have hfc:=run_firstCells_some (P:=P) w i.size m xad m xc news (by rw [hl,hsize,Nat.mul_one]) hnews
   have hst:=run_storeCells_at (P:=P) r (o+n*i.size) e news 0 cur w h3 (by rw [hsize];omega) h1
   refine ⟨some ⟨r,o,none⟩,sc,w.setRow r (cur.toList.take (o+n)++news++cur.toList.drop (o+n+news.length)).toArray,?_,?_,?_,.inl rfl⟩
   ·simp only [Nat.add_zero] at hst
    have e1:o+n*i.size=o+n:=by rw [hsize,Nat.mul_one]
    rw [e1] at hst
    simp [Builtin.append_,run_underlying ht,sizeOf,typeInfo,hi,Builtin.lenOf,hroom,hfc,Addr.add_lit,e1,hst]
   ·refine ⟨by rw [List.length_append,h.len,hl],hroom,h.max,(fun hn=>by cases hn),fun hc=>⟨r,o,_,rfl,h2,h3.setRow _,?_,?_⟩⟩
    ·simp;omega
    ·have el:(List.take (o+n) cur.toList).length=o+n:=by simp;omega
     have e2:List.drop o (List.take (o+n) cur.toList++news++List.drop (o+n+news.length) cur.toList)=vs++news++List.drop (o+n+news.length) cur.toList:=by
      rw [List.append_assoc,List.drop_append_of_le_length (by omega),List.drop_take,show o+n-o=n by omega,h5,List.append_assoc]
     show List.take (n+m) (List.drop o (List.take (o+n) cur.toList++news++List.drop (o+n+news.length) cur.toList))=vs++news
     rw [e2,List.take_append_of_le_length (by rw [List.length_append,h.len,hl];omega),List.take_of_length_le (by rw [List.length_append,h.len,hl];omega)]
   ·rw [rowB_some (by omega)]
    exact ⟨rfl,rfl,rfl,by simp [World.setRow],fun k _ hne=>Go.setRow_other w r k _ (by rintro rfl;exact hne rfl)⟩
  ·have hgrow:∃v' w',(Builtin.append_ #[t,t] ty #[.slice sa n sc,.slice (some xad) m xc]).run P w= .ok v' w'∧w'.ownsRow w.heap.size e 1 v' (n+m) (vs++news)∧w.grownBy w' none:=by
    cases sa with
    |some b=>
     refine run_append_arg_grows (P:=P) w t ty e i z 1 bytes ht hi hz hsize hby hzs (by omega) b n sc vs (by rw [h.len,Nat.mul_one]) (fun j u hu=> ?_) xad m xc news (by rw [hl,Nat.mul_one]) hnews (by omega) h63 hbytes
     obtain ⟨hj,rfl⟩:=List.getElem?_eq_some_iff.1 hu
     obtain ⟨b',o,he,hc⟩:=h.read j hj
     obtain rfl:=Option.some.inj he
     rw [Addr.add_mid];exact hc
    |none=>
     have h0:=h.nil rfl
     have hle:=h.le
     subst h0
     obtain rfl:n=0:=by omega
     obtain rfl:vs=[]:=List.eq_nil_of_length_eq_zero h.len
     obtain ⟨v',w',hrun,r1,r2,_⟩:=run_append_own (P:=P) w w.heap.size t ty e i z 1 bytes ht hi hz hsize hby hzs (by omega) (.slice none 0 0) 0 [] (World.ownsRow_nil w _ e 1) xad m xc news (by rw [hl,Nat.mul_one]) hnews h1 h63 hbytes (Nat.le_refl _)
     exact ⟨v',w',hrun,r1,r2⟩
   obtain ⟨v',w',hrun,hown,hg⟩:=hgrow
   obtain ⟨g,cap,rfl,hgB,_⟩:∃g cap,v'= .slice (some ⟨g,0,none⟩) (n+m) cap∧w.heap.size≤g∧True:=by
    rcases hown.2 with ⟨_,h0⟩|⟨g,cap,cur,rfl,hB',_⟩
    ·omega
    ·exact ⟨g,cap,rfl,hB',trivial⟩
   have hMid:Mid w' w.heap.size e (some ⟨g,0,none⟩) (n+m) cap (vs++news):=Mid.of (n:=n+m) hown
   refine ⟨_,_,w',hrun,hMid.lower hB,⟨hg.os,hg.tape,hg.output,hg.size,fun k hk _=>hg.block k hk (by simp)⟩,.inr ⟨g,rowB_some (by have:=hMid.le;omega),hgB⟩⟩
theorem wp_append_mid {w:World} {o:Oper} {a:Act} {K:Act→World→Prop} {Q:Exit→Act→World→Prop} (s x:Operand) (t:TypeId) (ho:o.op= .call {callee:= .builtin .append,args:= #[s,x],argTypes:= #[t,t]})
  {e:TypeId} {bytes:Nat} (hT:RowType P t e 1 bytes) {B:Nat} {sa:Option Addr} {n sc:Nat} {vs:List Value} (hs:a.eval s= .slice sa n sc) (h:Mid w B e sa n sc vs)
  {xa:Option Addr} {m xc:Nat} {news:List Value} (hx:a.eval x= .slice xa m xc) (hrow:RowAt w xa news) (hl:news.length=m) (h1:∀u∈news,u.oneCell'=true) (h63:n+m≤maxLen) (hbytes:(n+m)*bytes≤140737488355328) (hB:B≤w.heap.size)
  (hK:∀a' c' w',Mid w' B e a' (n+m) c' (vs++news)→w.grownBy w' (rowB sa sc)→(rowB a' c'=rowB sa sc∨∃b,rowB a' c'=some b∧w.heap.size≤b)→K (a.put o.dst (.slice a' (n+m) c')) w'):o.wp P a w K Q:=by
 obtain ⟨a',c',w',hrun,r1,r2,r3⟩:=run_append_mid (P:=P) t o.type hT h hrow hl h1 h63 hbytes hB (xc:=xc)
 unfold Oper.wp
 simp [execOp,ho,resolve,invoke,builtin,hs,hx,hrun,Result.andThen]
 exact hK a' c' w' r1 r2 r3
theorem wpList_append_mid {w:World} {ops:Array Oper} {rest:List Oper} {o:Oper} {a:Act} {Q:Exit→Act→World→Prop} (hgd:o.guard=none) (s x:Operand) (t:TypeId) (ho:o.op= .call {callee:= .builtin .append,args:= #[s,x],argTypes:= #[t,t]})
  {e:TypeId} {bytes:Nat} (hT:RowType P t e 1 bytes) {B:Nat} {sa:Option Addr} {n sc:Nat} {vs:List Value} (hs:a.eval s= .slice sa n sc) (h:Mid w B e sa n sc vs)
  {xa:Option Addr} {m xc:Nat} {news:List Value} (hx:a.eval x= .slice xa m xc) (hrow:RowAt w xa news) (hl:news.length=m) (h1:∀u∈news,u.oneCell'=true) (h63:n+m≤maxLen) (hbytes:(n+m)*bytes≤140737488355328) (hB:B≤w.heap.size)
  (hK:∀a' c' w',Mid w' B e a' (n+m) c' (vs++news)→w.grownBy w' (rowB sa sc)→(rowB a' c'=rowB sa sc∨∃b,rowB a' c'=some b∧w.heap.size≤b)→wpList P ops Q rest (a.put o.dst (.slice a' (n+m) c')) w'):wpList P ops Q (o::rest) a w:=
 wpList_plain hgd fun _ hK'=>wp_append_mid s x t ho hT hs h hx hrow hl h1 h63 hbytes hB fun a' c' w' r1 r2 r3=>hK' _ _ (hK a' c' w' r1 r2 r3)
theorem run_cut_from {t e:TypeId} (ht:P.underlying t=some (.slice e)) (hsz:(P.info? e).map (·.size)=some 1) (a:Option Addr) (n c k:Nat) (hk:k≤n) (W:World):
  (Instr.sliceAt t (.slice a n c) (some (.int .i64 (k:Int))) none none).run P W= .ok (.slice (cutA a c k) (n-k) (c-k)) W:=by
 have he:P.elem t=e:=by simp [Program.elem,ht]
 rw [run_sliceAt_slice W t _ _ _ _ (by rw [he];exact ht)]
 rw [run_slice_l W t a n c (by rw [he];exact ht) .i64 (k:Int) (by omega) (by omega),he]
 have hs:(sizeOf e).run P W= .ok 1 W:=by
  cases hq:P.info? e with
  |none=>simp [hq] at hsz
  |some i=>simp [hq] at hsz;simp [sizeOf,typeInfo,hq,hsz]
 rw [hs]
 simp [sliced,cutA]
end
section
variable {P:Program}
theorem run_append_fresh (t ty:TypeId) {e:TypeId} {bytes:Nat} (hT:RowType P t e 1 bytes) {w:World} {B:Nat} {sa:Option Addr} {n sc:Nat} {vs:List Value} (h:Own w B e 1 sa n sc vs)
  {xa:Option Addr} {m xc:Nat} {news:List Value} (hrow:RowAt w xa news) (hl:news.length=m) (hm:0<m) (h1:∀u∈news,u.oneCell'=true) (h63:n+m≤maxLen) (hbytes:(n+m)*bytes≤140737488355328) (hB:B≤w.heap.size):
  ∃a' c' w',(Builtin.append_ #[t,t] ty #[.slice sa n sc,.slice xa m xc]).run P w= .ok (.slice a' (n+m) c') w'∧Own w' B e 1 a' (n+m) c' (vs++news)∧w.grownBy w' (rowB sa sc)∧
   (rowB a' c'=rowB sa sc∨∃b,rowB a' c'=some b∧w.heap.size≤b):=by
 obtain ⟨a',c',w',r0,_,r2,r3⟩:=run_append_mid (P:=P) t ty hT (Mid.of h) hrow hl h1 h63 hbytes hB (xc:=xc)
 obtain ⟨ht,hsz,i,z,hi,hz,hsize,hby,hzs⟩:=hT
 obtain ⟨b,o,rfl,_⟩:=hrow 0 (by omega)
 have hnews:∀j u,news[j]? =some u→w.cell? ((⟨b,o,none⟩:Addr).add j)=some u:=fun j u hu=>by
  obtain ⟨hj,rfl⟩:=List.getElem?_eq_some_iff.1 hu
  obtain ⟨b',o',he,hc⟩:=hrow j hj
  cases he
  rw [Addr.add_mid];exact hc
 obtain ⟨v',w2,q0,q1,_⟩:=run_append_own (P:=P) w B t ty e i z 1 bytes ht hi hz hsize hby hzs (by omega) (.slice sa n sc) n vs h ⟨b,o,none⟩ m xc news (by rw [hl,Nat.mul_one]) hnews h1 h63 hbytes hB
 rw [r0] at q0
 simp only [Result.ok.injEq] at q0
 obtain ⟨rfl,rfl⟩:=q0
 exact ⟨a',c',w',r0,q1,r2,r3⟩
theorem wp_append_fresh {w:World} {o:Oper} {a:Act} {K:Act→World→Prop} {Q:Exit→Act→World→Prop} (s x:Operand) (t:TypeId) (ho:o.op= .call {callee:= .builtin .append,args:= #[s,x],argTypes:= #[t,t]})
  {e:TypeId} {bytes:Nat} (hT:RowType P t e 1 bytes) {B:Nat} {sa:Option Addr} {n sc:Nat} {vs:List Value} (hs:a.eval s= .slice sa n sc) (h:Own w B e 1 sa n sc vs)
  {xa:Option Addr} {m xc:Nat} {news:List Value} (hx:a.eval x= .slice xa m xc) (hrow:RowAt w xa news) (hl:news.length=m) (hm:0<m) (h1:∀u∈news,u.oneCell'=true) (h63:n+m≤maxLen) (hbytes:(n+m)*bytes≤140737488355328) (hB:B≤w.heap.size)
  (hK:∀a' c' w',Own w' B e 1 a' (n+m) c' (vs++news)→w.grownBy w' (rowB sa sc)→(rowB a' c'=rowB sa sc∨∃b,rowB a' c'=some b∧w.heap.size≤b)→K (a.put o.dst (.slice a' (n+m) c')) w'):o.wp P a w K Q:=by
 obtain ⟨a',c',w',hrun,r1,r2,r3⟩:=run_append_fresh (P:=P) t o.type hT h hrow hl hm h1 h63 hbytes hB (xc:=xc)
 unfold Oper.wp
 simp [execOp,ho,resolve,invoke,builtin,hs,hx,hrun,Result.andThen]
 exact hK a' c' w' r1 r2 r3
end
def KeepAt (S:Nat→Prop) (W W':World):Prop:=W.heap.size≤W'.heap.size∧∀x,S x→W'.heap[x]? =W.heap[x]?
theorem KeepAt.refl (S:Nat→Prop) (W:World):KeepAt S W W:=⟨Nat.le_refl _,fun _ _=>rfl⟩
theorem KeepAt.trans {S:Nat→Prop} {A B C:World} (h:KeepAt S A B) (h':KeepAt S B C):KeepAt S A C:=⟨Nat.le_trans h.1 h'.1,fun x hx=>(h'.2 x hx).trans (h.2 x hx)⟩
theorem KeepAt.below {S:Nat→Prop} {A B:World} {n:Nat} (h:Below n A B) (hS:∀x,S x→x<n):KeepAt S A B:=⟨h.size,fun x hx=>h.block x (hS x hx)⟩
end
end Go.Proofs.YtioigihakjlopaaGreat
