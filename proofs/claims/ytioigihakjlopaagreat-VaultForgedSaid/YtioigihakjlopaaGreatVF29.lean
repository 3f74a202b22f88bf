import Derived.Test.YtioigihakjlopaaGreatVF26
namespace Go.Proofs.YtioigihakjlopaaGreat
open Go.Proofs.Tryz
set_option linter.unusedVariables false
set_option linter.unusedSimpArgs false
set_option maxHeartbeats 16000000
set_option maxRecDepth 100000
section
open Go.RowKit Go.Maps
theorem Own.setN {w:World} {B:Nat} {e:TypeId} {size:Nat} {g n c:Nat} {vs:List Value} (h:Own w B e size (some ⟨g,0,none⟩) n c vs) (i:Nat) (hi:i<n*size) (v:Value):Own (w.setCell ⟨g,i,none⟩ v) B e size (some ⟨g,0,none⟩) n c (vs.set i v):=by
 refine ⟨by rw [Xx];exact h.1,?_⟩;rcases h.2 with ⟨h0,h1⟩|⟨g',cap,cur,h0,hB,hg,hn,hm,hs,ht⟩
 .simp at h0
 .simp only [VC,Vn,Xk] at h0;obtain ⟨⟨rfl,-⟩,-,rfl⟩:=h0;refine .inr ⟨g,c,cur.setIfInBounds i v,rfl,hB,(show Blk w g cur e from hg).set i v,hn,hm,by simpa using hs,?_⟩;rw [Array.toList_setIfInBounds,List.take_set,ht]
theorem Own.headR {w:World} {B:Nat} {e:TypeId} {size:Nat} {a:Option Addr} {n c:Nat} {vs:List Value} (h:Own w B e size a n c vs) (hn:0<n):∃g,a=some ⟨g,0,none⟩:=by
 rcases h.2 with ⟨h0,h1⟩|⟨g',cap,cur,h0,_⟩
 .omega
 .simp only [VC] at h0;exact ⟨g',h0.1⟩
structure cQ where
 nm:bz
 a:Option Addr
 c:Nat
 b:List UInt8
 sure:Nat
def cQ.p (f:cQ):dx:=⟨f.nm,f.b,f.sure⟩
def aS (f:cQ):List Value:=[.string f.nm,.slice f.a f.b.length f.c,.int .i64 (f.sure:Int)]
structure di where
 d:Nat
 la:Option Addr
 lc:Nat
 fs:List cQ
 down:Bool
 armed:Bool
 left:Int
 pa:Option Addr
 pc:Nat
 plan:eA
def di.p (r:di):aM:=⟨r.fs.map (·.p),r.down,r.armed,r.left,r.plan⟩
def cJ (r:di):Array Value:= #[.slice r.la r.fs.length r.lc,.bool r.down,.bool r.armed,.int .i64 r.left,.slice r.pa r.plan.length r.pc]
structure db (w:World) (B:Nat) (r:di):Prop where
 ged:B<=r.d
 blk:Blk w r.d (cJ r) 49
 row:Own w B 118 3 r.la r.fs.length r.lc (r.fs.flatMap aS)
 files:∀f∈r.fs,Own w B 5 1 f.a f.b.length f.c (f.b.map bv)
 plan:Own w B 130 2 r.pa r.plan.length r.pc (r.plan.flatMap eu)
 ok:dN r.p
def ig (r:di) (x:Nat):Prop:=x=r.d\/(∃ad,r.la=some ad/\x=ad.block)\/(∃f∈r.fs,∃ad,f.a=some ad/\x=ad.block)\/∃ad,r.pa=some ad/\x=ad.block
section
variable {w w':World} {B:Nat} {f:cQ} {r r' r'':di}
theorem db.keep (h:db w B r) (hk:∀x,ig r x->w'.heap[x]? =w.heap[x]?):db w' B r:=
 ⟨h.ged,(hk _ (.inl rfl)).trans h.blk,h.row.keepAt fun x hx=>hk _ (.inr (.inl ⟨x,hx,rfl⟩)),fun f hf=>(h.files f hf).keepAt fun x hx=>hk _ (.inr (.inr (.inl ⟨f,hf,x,hx,rfl⟩))),h.plan.keepAt fun x hx=>hk _ (.inr (.inr (.inr ⟨x,hx,rfl⟩))),h.ok⟩
theorem db.lt (h:db w B r) {x:Nat} (hx:ig r x):B<=x/\x<w.heap.size:=by
 rcases hx with rfl|⟨ad,ha,rfl⟩|⟨f,hf,ad,ha,rfl⟩|⟨ad,ha,rfl⟩
 .exact ⟨h.ged,h.blk.lt⟩
 .exact ⟨(h.row.block_lt ha).1,(h.row.block_lt ha).2.1⟩
 .exact ⟨((h.files f hf).block_lt ha).1,((h.files f hf).block_lt ha).2.1⟩
 .exact ⟨(h.plan.block_lt ha).1,(h.plan.block_lt ha).2.1⟩
theorem db.old (h:db w B r) (hb:Below w.heap.size w w'):db w' B r:=h.keep fun x hx=>hb.block x (h.lt hx).2
structure de (B:Nat) (w:World) (r:di) (w':World) (r':di):Prop where
 turn:aJ (ig r) w w'
 at':db w' B r'
 foot':∀x,ig r' x->ig r x\/w.heap.size<=x
 d:r'.d=r.d
theorem de.refl (h:db w B r):de B w r w r:=⟨aJ.refl _ _,h,fun _ hx=> .inl hx,rfl⟩
theorem de.old (h:db w B r) (hb:Below w.heap.size w w'):de B w r w' r:=⟨aJ.of_below hb,h.old hb,fun _ hx=> .inl hx,rfl⟩
theorem de.trans {w'':World} (h:de B w r w' r') (h':de B w' r' w'' r''):de B w r w'' r'':=
 ⟨h.turn.trans h'.turn h.foot',h'.at',fun x hx=>by
  rcases h'.foot' x hx with h1|h1
  .exact h.foot' x h1
  .exact .inr (At h.turn.size h1),h'.d.trans h.d⟩
theorem de.below (h:de B w r w' r') (hr:db w B r) (hB:B<=w.heap.size):Below B w w':=h.turn.below (fun _ hx=>(hr.lt hx).1) hB
theorem db.head (h:db w B r) (r2:di) (hd:r2.d=r.d) (hla:r2.la=r.la) (hlc:r2.lc=r.lc) (hfs:r2.fs=r.fs) (hpa:r2.pa=r.pa) (hpc:r2.pc=r.pc) (hplan:r2.plan=r.plan) (hl:0<=r2.left/\r2.left<=9223372036854775807)
  (hb:Blk w' r.d (cJ r2) 49) (ho:∀x,x≠r.d->w'.heap[x]? =w.heap[x]?):db w' B r2:=by
 obtain ⟨d2,la2,lc2,fs2,down2,armed2,left2,pa2,pc2,plan2⟩:=r2;dsimp only at hd hla hlc hfs hpa hpc hplan hl;subst hd hla hlc hfs hpa hpc hplan;have ne:∀{b:Nat} {cs:Array Value} {t:TypeId},Blk w b cs t->t≠49->b≠r.d:=fun hb' ht=>Blk.ne hb' h.blk ht;refine ⟨h.ged,hb,h.row.keepAt fun x hx=>ho _ ?_,fun f hf=>(h.files f hf).keepAt fun x hx=>ho _ ?_,h.plan.keepAt fun x hx=>ho _ ?_,⟨h.ok.names,h.ok.named,h.ok.sure,h.ok.size,h.ok.count,hl⟩⟩
 .obtain ⟨_,_,_,hc⟩:=h.row.block_lt hx;exact ne hc dcA
 .obtain ⟨_,_,_,hc⟩:=(h.files f hf).block_lt hx;exact ne hc dcA
 .obtain ⟨_,_,_,hc⟩:=h.plan.block_lt hx;exact ne hc dcA
theorem db.elem (h:db w B r) (k:Nat) (hk:k<r.fs.length):∃g,r.la=some ⟨g,0,none⟩/\w.cell? ⟨g,k*3,none⟩=some (.string r.fs[k].nm)/\w.cell? ⟨g,k*3+1,none⟩=some (.slice r.fs[k].a r.fs[k].b.length r.fs[k].c)/\w.cell? ⟨g,k*3+2,none⟩=some (.int .i64 (r.fs[k].sure:Int)):=by
 obtain ⟨g,hg⟩:=h.row.headR oA;obtain ⟨b,o,e1,_,hc⟩:=aw.elem (g:=aS) (sz:=3) (fun _=>rfl) h.row.row oA k hk;rw [hg] at e1;cases e1;have h0:=hc 0 (show 0<3 by omega);have h1:=hc 1 (show 1<3 by omega);have h2:=hc 2 (show 2<3 by omega);simp only [VS,Nat.add_zero] at h0 h1 h2;exact ⟨g,hg,h0,h1,h2⟩
theorem yz {fs:List cQ} {k:Nat} (hk:k<fs.length) (f:cQ):(fs.set k f).flatMap aS=(((fs.flatMap aS).set (k*3) (.string f.nm)).set (k*3+1) (.slice f.a f.b.length f.c)).set (k*3+2) (.int .i64 (f.sure:Int)):=by
 induction fs generalizing k with
 |nil=>simp at hk
 |cons x l ih=>
  cases k with
  |zero=>simp [aS]
  |succ k=>
   have hk':k<l.length:=(by simpa using hk);have e:(k+1)*3=k*3+3:=oA;rw [List.set_cons_succ,Vh,Vh,ih hk',e];simp [aS]
theorem ss {fs:List cQ} {k:Nat} (hk:k<fs.length):(fs.flatMap aS)[k*3]? =some (.string fs[k].nm)/\(fs.flatMap aS)[k*3+1]? =some (.slice fs[k].a fs[k].b.length fs[k].c)/\(fs.flatMap aS)[k*3+2]? =some (.int .i64 (fs[k].sure:Int)):=by
 induction fs generalizing k with
 |nil=>simp at hk
 |cons x l ih=>
  cases k with
  |zero=>simp [aS]
  |succ k=>
   have hk':k<l.length:=(by simpa using hk);have e:(k+1)*3=k*3+3:=oA;obtain ⟨a,b,c⟩:=ih hk';rw [Vh,e];simp only [aS,XN,Wf,List.getElem?_cons_succ,List.getElem_cons_succ];exact ⟨a,b,c⟩
end
theorem Hg {fs:List cQ} {k:Nat} (hk:k<fs.length) (hn:(fs.map (·.nm)).Nodup) (G:dx->dx) (f:cQ) (hf:f.p=G fs[k].p):(fs.set k f).map (·.p)=AN (fs.map (·.p)) fs[k].nm G:=by
 refine List.ext_getElem (by simp [AN]) fun i h1 h2=> ?_;simp only [lmA,Xx] at h1;simp only [AN,Wz,List.getElem_set];by_cases e:k=i
 .subst e;rw [if_pos rfl,if_pos (show fs[k].p.name=fs[k].nm from rfl),hf]
 .rw [if_neg e,if_neg];intro e2;have e3:(fs.map (·.nm))[i]'(by simpa using h1)=(fs.map (·.nm))[k]'(by simpa using hk):=(by simpa using (show fs[i].nm=fs[k].nm from e2));exact e ((List.getElem_inj hn).1 e3).symm
def gC (fs:List cQ) (nm:bz):Int:=match fs.findIdx? (fun f=>f.nm=nm) with
 |some k=>(k:Int)
 |none=> -1
theorem zC {fs:List cQ} {nm:bz} {k:Nat} (hk:k<fs.length) (h1:fs[k].nm=nm) (h2:∀j (hj:j<fs.length),j<k->fs[j].nm≠nm):gC fs nm=(k:Int):=by
 unfold gC;have:fs.findIdx? (fun f=>decide (f.nm=nm))=some k:=by
  rw [List.findIdx?_eq_some_iff_getElem];exact ⟨hk,by simpa using h1,fun j hj=>by simpa using h2 j oA hj⟩
 rw [this]
theorem zD {fs:List cQ} {nm:bz} (h:∀f∈fs,f.nm≠nm):gC fs nm= -1:=by
 unfold gC;have:fs.findIdx? (fun f=>decide (f.nm=nm))=none:=by
  rw [List.findIdx?_eq_none_iff];intro f hf;simpa using h f hf
 rw [this]
theorem pG (fs:List cQ) (nm:bz):(∃k,∃hk:k<fs.length,fs[k].nm=nm/\gC fs nm=(k:Int)/\(fs.map (·.p)).find? (fun f=>f.name=nm)=some fs[k].p)\/((∀f∈fs,f.nm≠nm)/\gC fs nm= -1/\(fs.map (·.p)).find? (fun f=>f.name=nm)=none):=by
 cases h:fs.findIdx? (fun f=>decide (f.nm=nm)) with
 |some k=>
  obtain ⟨hk,h1,h2⟩:=List.findIdx?_eq_some_iff_getElem.1 h;refine .inl ⟨k,hk,by simpa using h1,by unfold gC;rw [h],?_⟩;rw [List.find?_eq_some_iff_getElem];refine ⟨VO (Xz h1),k,by simpa using hk,skA,fun j hj=> ?_⟩;have:=h2 j hj;simpa [cQ.p] using this
 |none=>
  have hn:∀f∈fs,f.nm≠nm:=fun f hf=>(by have:=List.findIdx?_eq_none_iff.1 h f hf;simpa using this);refine .inr ⟨hn,by unfold gC;rw [h],?_⟩;rw [XZ];intro f hf;obtain ⟨g,hg,rfl⟩:=VY.1 hf;exact fun e=>hn g hg (Xz e)
theorem qe {fs:List cQ} {k:Nat} (hk:k<fs.length) (f:cQ) (hn:f.nm=fs[k].nm):(fs.set k f).flatMap aS=((fs.flatMap aS).set (k*3+1) (.slice f.a f.b.length f.c)).set (k*3+2) (.int .i64 (f.sure:Int)):=by
 rw [yz hk f,hn];congr 2;obtain ⟨h,_,_⟩:=ss hk;obtain ⟨h1,h2⟩:=Vg.1 h;rw [<-h2];exact List.set_getElem_self h1
theorem Lr {fs:List cQ} {k:Nat} (hk:k<fs.length) (f:cQ) (hn:f.nm=fs[k].nm) (hs:f.sure=fs[k].sure):(fs.set k f).flatMap aS=(fs.flatMap aS).set (k*3+1) (.slice f.a f.b.length f.c):=by
 rw [qe hk f hn,hs,List.set_comm _ _ oA];congr 1;obtain ⟨_,_,h⟩:=ss hk;obtain ⟨h1,h2⟩:=Vg.1 h;rw [<-h2];exact List.set_getElem_self h1
theorem CC {fs:List cQ} {k:Nat} (hk:k<fs.length) (f:cQ) (hn:f.nm=fs[k].nm) (ha:f.a=fs[k].a) (hb:f.b=fs[k].b) (hc:f.c=fs[k].c):(fs.set k f).flatMap aS=(fs.flatMap aS).set (k*3+2) (.int .i64 (f.sure:Int)):=by
 rw [qe hk f hn,ha,hb,hc];congr 1;obtain ⟨_,h,_⟩:=ss hk;obtain ⟨h1,h2⟩:=Vg.1 h;rw [<-h2];exact List.set_getElem_self h1
section
variable {w w':World} {B:Nat} {r:di}
theorem db.nd (h:db w B r):(r.fs.map (·.nm)).Nodup:=by
 have:=h.ok.names;rw [show r.p.fs=r.fs.map (·.p) from rfl,WB] at this;exact this
theorem db.same {f g:cQ} (h:db w B r) (hf:f∈r.fs) (hg:g∈r.fs) (he:f.nm=g.nm):f=g:=by
 have hn:=h.nd;generalize r.fs=l at hf hg hn
 induction l with
 |nil=>cases hf
 |cons x l ih=>
  simp only [WY,XH] at hn;rcases Ve.1 hf with rfl|hf'
  .rcases Ve.1 hg with rfl|hg'
   .rfl
   .exact (hn.1 (he▸WX (f:=fun x:cQ=>x.nm) hg')).elim
  .rcases Ve.1 hg with rfl|hg'
   .exact (hn.1 (he▸WX (f:=fun x:cQ=>x.nm) hf')).elim
   .exact ih hf' hg' hn.2
theorem db.file (h:db w B r) {k:Nat} (hk:k<r.fs.length) (f:cQ) (hf:Own w' B 5 1 f.a f.b.length f.c (f.b.map bv)) (hrow:Own w' B 118 3 r.la r.fs.length r.lc ((r.fs.set k f).flatMap aS)) (ht:aJ (fun x=>∃ad,r.la=some ad/\x=ad.block) w w')
  (hna:∀ad,f.a=some ad->(∃ad',r.fs[k].a=some ad'/\ad.block=ad'.block)\/w.heap.size<=ad.block) (hok:dN (di.p {r with fs:=r.fs.set k f})):de B w r w' {r with fs:=r.fs.set k f}:=by
 have hx:∀x,(∃ad,r.la=some ad/\x=ad.block)->∃cur,Blk w x cur 118:=fun x ⟨ad,h1,h2⟩=>by
  obtain ⟨_,_,cur,hc⟩:=h.row.block_lt h1;exact ⟨cur,h2▸hc⟩
 have off:∀{b:Nat} {cs:Array Value} {t:TypeId},Blk w b cs t->t≠118->w'.heap[b]? =w.heap[b]? :=fun hb hne=>ht.block _ hb.lt fun e=>by
  obtain ⟨cur,hc⟩:=hx _ e;exact Blk.ne hb hc hne rfl
 refine ⟨ht.mono fun x hx=> .inr (.inl hx),⟨h.ged,(off h.blk dcA).trans ?_,?_,?_,?_,hok⟩,?_,rfl⟩
 .have:=h.blk;unfold Blk cJ at*;rw [this];simp
 .simpa using hrow
 .intro g hg;rcases List.mem_or_eq_of_mem_set hg with hg|rfl
  .refine (h.files g hg).keepAt fun x hx=> ?_;obtain ⟨_,_,cur,hc⟩:=(h.files g hg).block_lt hx;exact off hc dcA
  .exact hf
 .refine h.plan.keepAt fun x hx=> ?_;obtain ⟨_,_,cur,hc⟩:=h.plan.block_lt hx;exact off hc dcA
 .intro x hx;rcases hx with rfl|⟨ad,ha,rfl⟩|⟨g,hg,ad,ha,rfl⟩|⟨ad,ha,rfl⟩
  .exact .inl (.inl rfl)
  .exact .inl (.inr (.inl ⟨ad,ha,rfl⟩))
  .rcases List.mem_or_eq_of_mem_set hg with hg|rfl
   .exact .inl (.inr (.inr (.inl ⟨g,hg,ad,ha,rfl⟩)))
   .rcases hna ad ha with ⟨ad',e1,e2⟩|e
    .exact .inl (.inr (.inr (.inl ⟨r.fs[k],VE hk,ad',e1,e2⟩)))
    .exact .inr e
  .exact .inl (.inr (.inr (.inr ⟨ad,ha,rfl⟩)))
theorem db.both (h:db w B r) (hB:B<=w.heap.size) {k:Nat} (hk:k<r.fs.length) {g:Nat} (hg:r.la=some ⟨g,0,none⟩) {w3:World} (hb:Below w.heap.size w w3) (f:cQ) (hnm:f.nm=r.fs[k].nm) (ho:Own w3 w.heap.size 5 1 f.a f.b.length f.c (f.b.map bv)) (hok:dN (di.p {r with fs:=r.fs.set k f})):
  de B w r ((w3.setCell ⟨g,k*3+1,none⟩ (.slice f.a f.b.length f.c)).setCell ⟨g,k*3+2,none⟩ (.int .i64 (f.sure:Int))) {r with fs:=r.fs.set k f}/\aJ (fun x=>∃ad,r.la=some ad/\x=ad.block) w ((w3.setCell ⟨g,k*3+1,none⟩ (.slice f.a f.b.length f.c)).setCell ⟨g,k*3+2,none⟩ (.int .i64 (f.sure:Int))):=by
 have hrow:=h.row.old hb;rw [hg] at hrow;obtain ⟨_,_,cur,hcur⟩:=hrow.block_lt rfl;have ht:aJ (fun x=>∃ad,r.la=some ad/\x=ad.block) w ((w3.setCell ⟨g,k*3+1,none⟩ (.slice f.a f.b.length f.c)).setCell ⟨g,k*3+2,none⟩ (.int .i64 (f.sure:Int))):=
  aJ.setCell (aJ.setCell (aJ.of_below hb) (x:=⟨g,k*3+1,none⟩) (.inl ⟨_,hg,rfl⟩) _) (x:=⟨g,k*3+2,none⟩) (.inl ⟨_,hg,rfl⟩) _
 refine ⟨h.file hk f ?_ ?_ ht (fun ad ha=> .inr (ho.block_lt ha).1) hok,ht⟩
 .exact ((ho.lower hB).setCell_apart hcur dcA _ _).setCell_apart (hcur.set _ _) dcA _ _
 .rw [hg,qe hk f hnm];exact (hrow.setN (k*3+1) oA _).setN (k*3+2) oA _
theorem db.onlyB (h:db w B r) (hB:B<=w.heap.size) {k:Nat} (hk:k<r.fs.length) {g:Nat} (hg:r.la=some ⟨g,0,none⟩) {w3:World} (hb:Below w.heap.size w w3) (f:cQ) (hnm:f.nm=r.fs[k].nm) (hs:f.sure=r.fs[k].sure) (ho:Own w3 w.heap.size 5 1 f.a f.b.length f.c (f.b.map bv)) (hok:dN (di.p {r with fs:=r.fs.set k f})):
  de B w r (w3.setCell ⟨g,k*3+1,none⟩ (.slice f.a f.b.length f.c)) {r with fs:=r.fs.set k f}:=by
 have hrow:=h.row.old hb;rw [hg] at hrow;obtain ⟨_,_,cur,hcur⟩:=hrow.block_lt rfl;have ht:aJ (fun x=>∃ad,r.la=some ad/\x=ad.block) w (w3.setCell ⟨g,k*3+1,none⟩ (.slice f.a f.b.length f.c)):=
  aJ.setCell (aJ.of_below hb) (x:=⟨g,k*3+1,none⟩) (.inl ⟨_,hg,rfl⟩) _
 refine h.file hk f ?_ ?_ ht (fun ad ha=> .inr (ho.block_lt ha).1) hok
 .exact (ho.lower hB).setCell_apart hcur dcA _ _
 .rw [hg,Lr hk f hnm hs];exact hrow.setN (k*3+1) oA _
theorem db.onlySure (h:db w B r) {k:Nat} (hk:k<r.fs.length) {g:Nat} (hg:r.la=some ⟨g,0,none⟩) (n:Nat) (hok:dN (di.p {r with fs:=r.fs.set k {r.fs[k] with sure:=n}})):
  de B w r (w.setCell ⟨g,k*3+2,none⟩ (.int .i64 (n:Int))) {r with fs:=r.fs.set k {r.fs[k] with sure:=n}}:=by
 have hrow:=h.row;rw [hg] at hrow;obtain ⟨_,_,cur,hcur⟩:=hrow.block_lt rfl;have ht:aJ (fun x=>∃ad,r.la=some ad/\x=ad.block) w (w.setCell ⟨g,k*3+2,none⟩ (.int .i64 (n:Int))):=
  aJ.setCell (aJ.refl _ _) (x:=⟨g,k*3+2,none⟩) (.inl ⟨_,hg,rfl⟩) _
 refine h.file hk {r.fs[k] with sure:=n} ?_ ?_ ht (fun ad ha=> .inl ⟨ad,ha,rfl⟩) hok
 .exact (h.files _ (VE hk)).setCell_apart hcur dcA _ _
 .rw [hg,CC hk {r.fs[k] with sure:=n} rfl rfl rfl rfl];exact hrow.setN (k*3+2) oA _
theorem di.p_set {r:di} {k:Nat} (hk:k<r.fs.length) (hn:(r.fs.map (·.nm)).Nodup) (G:dx->dx) (f:cQ) (hf:f.p=G r.fs[k].p):di.p {r with fs:=r.fs.set k f}=jQ r.p r.fs[k].nm G:=by
 unfold di.p jQ;simp only [aM.mk.injEq,and_true];exact Hg hk hn G f hf
end
theorem re {P:Program} {t e:TypeId} (ht:P.underlying t=some (.slice e)) (hsz:(P.info? e).map (·.size)=some 1) (a:Option Addr) (n c k:Nat) (hk:k<=c) (W:World):
  (Instr.sliceAt t (.slice a n c) none (some (.int .i64 (k:Int))) none).run P W= .ok (.slice a k c) W:=by
 have he:P.elem t=e:=(by simp [Program.elem,ht]);rw [run_sliceAt_slice W t _ _ _ _ (by rw [he];exact ht)];rw [run_slice_h W t a n c (by rw [he];exact ht) .i64 (k:Int) oA oA,he];have hs:(sizeOf e).run P W= .ok 1 W:=by
  cases hq:P.info? e with
  |none=>simp [hq] at hsz
  |some i=>simp [hq] at hsz;simp [sizeOf,typeInfo,hq,hsz]
 rw [hs];cases a<;>simp [sliced,Addr.add]
theorem um (w:World) (B:Nat) (r:di) (nm:bz) (h:db w B r):Calls prog 64 #[.pointer (some ⟨r.d,0,none⟩),.string nm] w fun e w'=>e= .returned (.int .i64 (gC r.fs nm))/\w'=w:=by
 have hb:=h.blk.rule;unfold cJ at hb;have hcnt:r.fs.length<=64:=(by have:=h.ok.count;simpa [di.p] using this);go_enter func64,ntmps64;go_wp2_with fail;go_loopg [5] r.fs.length (fun f i wr=>wr=w/\∃k:Nat,k+f=r.fs.length/\i= .int .i64 (k:Int)/\Hid (∀j (hj:j<r.fs.length),j<k->r.fs[j].nm≠nm))
 case atStart=>exact ⟨rfl,0,oA,rfl,Hd (fun j hj h=>by omega)⟩
 case round=>
  obtain ⟨rfl,k,hk,rfl,hno⟩:=hrel;by_cases hlt:k<r.fs.length
  .obtain ⟨g,hg,c0,c1,c2⟩:=h.elem k hlt;rw [hg] at hb;have HG:=Hd hg;clear hg c1 c2;by_cases he:r.fs[k].nm=nm
   .have t0:(r.fs[k].nm.toList==nm.toList)=true:=(by rw [mG];simp [he]);have HP:=Hd (zC hlt he (fun j hj hjk=>hno.out j hj hjk));have HE:=Hd he;clear he;generalize r.fs[k].nm=nk at*;go_wp2_with fail;go_ret;exact ⟨by rw [HP.out];first|rfl|simp,rfl⟩
   .have t0:(r.fs[k].nm.toList==nm.toList)=false:=(by rw [mG];simp [he]);have HE:=Hd he;clear he;have HN:Hid (∀j (hj:j<r.fs.length),j<k+1->r.fs[j].nm≠nm):=Hd fun j hj hjk=>by
     rcases Nat.lt_or_eq_of_le (Nat.le_of_lt_succ hjk) with q|q
     .exact hno.out j hj q
     .subst q;exact HE.out
    generalize r.fs[k].nm=nk at*;go_wp2_with fail;go_roundg (gk-1)
    case measure=>omega
    case rel=>exact ⟨rfl,k+1,oA,gnA,HN⟩
  .have hke:k=r.fs.length:=oA;have HP:=Hd (zD (fs:=r.fs) (nm:=nm) (fun f hf=>by
    obtain ⟨j,hj,rfl⟩:=XR hf;exact hno.out j hj oA))
   go_wp2_with fail;go_ret;exact ⟨by rw [HP.out];first|rfl|simp,rfl⟩
def atI (p:di) (nm:bz):Int:=if p.down then-1 else gC p.fs nm
def atE (p:di) (nm:bz):Int:=if p.down then 5 else if gC p.fs nm<0 then 4 else 0
theorem sH (w:World) (B:Nat) (r:di) (nm:bz) (h:db w B r):Calls prog 66 #[.pointer (some ⟨r.d,0,none⟩),.string nm] w fun e w'=>e= .returned (.tuple #[.int .i64 (atI r nm),.int .i64 (atE r nm)])/\w'=w:=by
 have hb:=h.blk.rule;unfold cJ at hb;have hf:=um w B r nm h;cases hdn:r.down with
 |true=>
  rw [hdn] at hb;have HI:=Hd (show atI r nm= -1 by unfold atI;rw [if_pos hdn]);have HE:=Hd (show atE r nm=5 by unfold atE;rw [if_pos hdn]);have HD:=Hd hdn;clear hdn;go_enter func66,ntmps66;go_wp2_with fail;go_ret2;exact ⟨by rw [HI.out,HE.out];first|rfl|simp,rfl⟩
 |false=>
  rw [hdn] at hb;have HI:=Hd (show atI r nm=gC r.fs nm by unfold atI;rw [if_neg (by simp [hdn])]);have HE:=Hd (show atE r nm=if gC r.fs nm<0 then 4 else 0 by unfold atE;rw [if_neg (by simp [hdn])]);have HD:=Hd hdn;clear hdn;by_cases hp:gC r.fs nm<0
  .have t0:decide (gC r.fs nm<0)=true:=(by simp [hp]);have HP:=Hd hp;clear hp;go_enter func66,ntmps66;go_wp2_with fail;refine hf.mono ?_;rintro e w' ⟨rfl,rfl⟩;go_wp2_with fail;go_ret2;exact ⟨by rw [HI.out,HE.out,if_pos HP.out];first|rfl|simp,rfl⟩
  .have t0:decide (gC r.fs nm<0)=false:=(by simpa using hp);have HP:=Hd hp;clear hp;go_enter func66,ntmps66;go_wp2_with fail;refine hf.mono ?_;rintro e w' ⟨rfl,rfl⟩;go_wp2_with fail;go_ret2;exact ⟨by rw [HI.out,HE.out,if_neg (by have:=HP.out;omega)];first|rfl|simp,rfl⟩
theorem oL (r:di) (nm:bz):(r.down=true/\atI r nm= -1/\atE r nm=5)\/(r.down=false/\(∀f∈r.fs,f.nm≠nm)/\atI r nm= -1/\atE r nm=4/\eW r.p nm=none)\/
  ∃k,∃hk:k<r.fs.length,r.down=false/\r.fs[k].nm=nm/\atI r nm=(k:Int)/\atE r nm=0/\eW r.p nm=some r.fs[k].p:=by
 cases hd:r.down with
 |true=>exact .inl ⟨rfl,by simp [atI,hd],by simp [atE,hd]⟩
 |false=>
  rcases pG r.fs nm with ⟨k,hk,h1,h2,h3⟩|⟨h1,h2,h3⟩
  .exact .inr (.inr ⟨k,hk,rfl,h1,by simp [atI,hd,h2],by simp [atE,hd,h2],h3⟩)
  .exact .inr (.inl ⟨rfl,h1,by simp [atI,hd,h2],by simp [atE,hd,h2],h3⟩)
theorem ri (s:ByteArray) (w:World):Calls prog 63 #[.string s] w fun e w'=>e= .returned (.bool (cZ s))/\w'=w:=by
 have hk:cZ s=(decide (1<=s.size)&&decide (s.size<=40)):=by
  unfold cZ;congr 1;rw [decide_eq_decide];omega
 rw [hk];clear hk;by_cases h1:1<=s.size
 .by_cases h2:s.size<=40
  .go_enter func63,ntmps63;go_wp2_with fail;go_ret;exact ⟨by simp [h1,h2];omega,rfl⟩
  .go_enter func63,ntmps63;go_wp2_with fail;go_ret;exact ⟨by simp [h1,h2];omega,rfl⟩
 .go_enter func63,ntmps63;go_wp2_with fail;go_ret;exact ⟨by simp [h1],rfl⟩
theorem jD (a:Option Addr) (len cap:Nat) (l:List UInt8) (w:World) (hl:ah w a l) (hlen:l.length=len) (hm:len<=140737488351232):
  Calls prog 67 #[.slice a len cap] w fun e w'=>∃a' c',e= .returned (.slice a' len c')/\Own w' w.heap.size 5 1 a' len c' (l.map bv)/\Below w.heap.size w w':=by
 have HL:=Hd hlen;clear hlen;have hown:Own w w.heap.size 5 1 none 0 0 []:=Own.nil _ _ _ _;go_enter func67,ntmps67;go_wp2_with (at_builtin;refine al rfl _ _ 22 rfl nP rfl hown rfl hl (by rw [lmA,HL.out,Vk]) (cO _) mxA oA (Lt _) ?_);intro a1 c1 w1 hown1 hg1;go_wp2_with fail;go_ret;refine ⟨a1,c1,?_,?_,hown.grown (AT _ _) (Lt _) hg1 (Lt _)⟩
 .first|rfl|simp
 .simpa using hown1
theorem vU (a:Option Addr) (len cap:Nat) (l:eA) (w:World) (hl:aw w a (l.flatMap eu)) (hlen:l.length=len) (hm:len*24<=140737488355328):
  Calls prog 103 #[.slice a len cap] w fun e w'=>∃a' c',e= .returned (.slice a' len c')/\Own w' w.heap.size 130 2 a' len c' (l.flatMap eu)/\Below w.heap.size w w':=by
 have HL:=Hd hlen;clear hlen;have hown:Own w w.heap.size 130 2 none 0 0 []:=Own.nil _ _ _ _;go_enter func103,ntmps103;go_wp2_with (at_builtin;refine al rfl _ _ 47 rfl KM rfl hown rfl hl (by rw [pH,HL.out]) (rp _) mxA oA (Lt _) ?_);intro a1 c1 w1 hown1 hg1;go_wp2_with fail;go_ret;refine ⟨a1,c1,?_,?_,hown.grown (AT _ _) (Lt _) hg1 (Lt _)⟩
 .first|rfl|simp
 .simpa using hown1
theorem Cq (plan:eA) (f:dx) (h:f.sure<=f.b.length):min (max (qQ plan f.name) 0) ((f.b.length:Int)-f.sure)=(ip plan f:Int):=by
 unfold ip;by_cases ha:plan.any (fun x=>x.1=f.name)=true
 .rw [if_pos ha];omega
 .rw [if_neg ha];have:qQ plan f.name=0:=by
   unfold qQ;have:plan.find? (fun x=>x.1=f.name)=none:=by
    rw [XZ];intro x hx e;exact ha (Vp.2 ⟨x,hx,e⟩)
   rw [this];rfl
  rw [this];omega
theorem zP (plan:eA) (nm:bz) (m:Nat) (hm:m<plan.length):qQ (plan.drop m) nm=if plan[m].1=nm then plan[m].2 else qQ (plan.drop (m+1)) nm:=by
 unfold qQ;rw [XJ hm,XL];by_cases e:plan[m].1=nm
 .rw [VO e,if_pos e];rfl
 .rw [Vd e,if_neg e]
theorem xW {α:Type} (g:α->α):∀(l:List α) (k:Nat) (hk:k<l.length),((l.take k).map g++l.drop k).set k (g l[k])=(l.take (k+1)).map g++l.drop (k+1)
 |x::l,0,_=>by simp
 |x::l,k+1,hk=>by
  have:=xW g l k (by simpa using hk);simpa using this
theorem xX {α:Type} (g:α->α):∀(l:List α) (k:Nat) (hk:k<l.length),((l.take k).map g++l.drop k)[k]? =some l[k]
 |x::l,0,_=>by simp
 |x::l,k+1,hk=>by
  have:=xX g l k (by simpa using hk);simpa using this
structure CrR (w:World) (B:Nat) (r:di) (plan:eA) (k:Nat) (r':di) (wr:World):Prop where
 step:de B w r wr r'
 len:Hid (r'.fs.length=r.fs.length)
 p:Hid (r'.p.fs=(r.p.fs.take k).map (im plan)++r.p.fs.drop k)
 la:Hid (r'.la=r.la/\r'.lc=r.lc)
 tl:aJ (fun x=>∃ad,r.la=some ad/\x=ad.block) w wr
 rest:Hid (r'.down=r.down/\r'.armed=r.armed/\r'.left=r.left/\r'.plan=r.plan/\r'.pa=r.pa/\r'.pc=r.pc)
theorem CrR.next {w wr w':World} {B:Nat} {r r':di} {plan:eA} {k:Nat} (h:CrR w B r plan k r' wr) (hk:k<r'.fs.length) (f:cQ) (hf:f.p=im plan r'.fs[k].p) (ht:aJ (fun x=>∃ad,r'.la=some ad/\x=ad.block) wr w') (hs:de B wr r' w' {r' with fs:=r'.fs.set k f}):CrR w B r plan (k+1) {r' with fs:=r'.fs.set k f} w':=by
 refine ⟨h.step.trans hs,Hd (by simp [h.len.out]),Hd ?_,Hd h.la.out,h.tl.trans ht (fun x hx=> .inl (by rw [h.la.out.1] at hx;exact hx)),Hd h.rest.out⟩;have hk2:k<r.p.fs.length:=(by have:=h.len.out;simp [di.p];omega);have e:=h.p.out;have ek:r'.p.fs[k]? =some r.p.fs[k]:=(by rw [e];exact xX _ _ _ hk2);have ek2:r'.fs[k].p=r.p.fs[k]:=by
  have e3:r'.p.fs[k]? =some r'.fs[k].p:=(by simp [di.p,hk]);rw [e3] at ek;exact Wo ek
 show (r'.fs.set k f).map (·.p)=_;rw [List.map_set,hf,ek2,show r'.fs.map (·.p)=r'.p.fs from rfl,e];exact xW _ _ _ hk2
theorem de.drewN {w wr:World} {B:Nat} {r r':di} (h:de B w r wr r') (n:Nat):de B w r (wr.drewN n) r':=⟨h.turn.drewN n,h.at'.keep fun _ _=>rfl,h.foot',h.d⟩
theorem CrR.drewN {w wr:World} {B:Nat} {r r':di} {plan:eA} {k:Nat} (h:CrR w B r plan k r' wr) (n:Nat):CrR w B r plan k r' (wr.drewN n):=⟨h.step.drewN n,h.len,h.p,h.la,h.tl.drewN n,h.rest⟩
theorem Fv {p:aM} (h:dN p) (plan:eA) (nm:bz):dN (jQ p nm (im plan)):=
 h.upd nm (im plan) (fun f _=>rfl) (fun f hf _=>by rw [kQ plan f (h.sure f hf)];exact Lt _) (fun f hf _=>by rw [kQ plan f (h.sure f hf)];exact At (my plan f (h.sure f hf)) (h.size f hf))
theorem zx (w:World) (B:Nat) (r:di) (pa:Option Addr) (pn pc:Nat) (plan:eA) (h:db w B r) (hB:B<=w.heap.size) (hp:aw w pa (plan.flatMap eu)) (hpn:plan.length=pn) (hpm:pn<=maxLen) (hpf:plan≠ []->∀ad,pa=some ad->∀ad',r.la=some ad'->ad.block≠ad'.block):
  Calls prog 40 #[.pointer (some ⟨r.d,0,none⟩),.slice pa pn pc] w fun e w'=>∃r',e= .returned (.int .i64 (dE r.p plan).2)/\r'.p=(dE r.p plan).1/\de B w r w' r':=by
 have HP:=Hd hpn;clear hpn;unfold maxLen at hpm;have hb:=h.blk.rule;unfold cJ at hb;cases hdn:r.down with
 |true=>
  rw [hdn] at hb;go_enter func40,ntmps40;go_wp2_with fail;go_ret;refine ⟨r,?_,?_,de.refl h⟩
  .simp [dE,di.p,hdn]
  .simp [dE,di.p,hdn]
 |false=>
  rw [hdn] at hb;have hcnt:r.fs.length<=64:=(by have:=h.ok.count;simpa [di.p] using this);go_enter func40,ntmps40;go_wp2_with fail;have hst:CrR w B r plan 0 r w:=⟨de.refl h,Hd rfl,Hd skA,Hd ⟨rfl,rfl⟩,aJ.refl _ _,Hd ⟨rfl,rfl,rfl,rfl,rfl,rfl⟩⟩;have HD:=Hd hdn;clear hb hdn;go_loopg [5] r.fs.length (fun f i wr=>∃(k:Nat) (r':di),k+f=r.fs.length/\i= .int .i64 (k:Int)/\CrR w B r plan k r' wr)
  case atStart=>exact ⟨0,r,oA,rfl,hst⟩
  case round=>
   clear hst;obtain ⟨k,r',hk,rfl,hC⟩:=hrel;have ha:=hC.step.at';have hd:=hC.step.d;have hb:=ha.blk.rule;unfold cJ at hb;rw [hd] at hb;have HLEN:=Hd hC.len.out;by_cases hlt:k<r.fs.length
   .have hlt':k<r'.fs.length:=(by rw [HLEN.out];exact hlt);obtain ⟨g,hg,c0,c1,c2⟩:=ha.elem k hlt';have hsu:=ha.ok.sure r'.fs[k].p (VY.2 ⟨_,VE hlt',rfl⟩);have hsz:r'.fs[k].b.length<=1048576:=ha.ok.size r'.fs[k].p (VY.2 ⟨_,VE hlt',rfl⟩);rw [hg,HLEN.out] at hb;have HG:=Hd hg;have HSU:=Hd hsu;have HFN:=Hd (rfl:r'.fs[k]=r'.fs[k]);clear hg hsu;obtain ⟨f,hf⟩:=Le (r'.fs[k]);rw [<-hf] at c0 c1 c2 hsz;have HF:=Hd hf;have hfown:=ha.files f (hf▸VE hlt');clear hf;have hpw:aw wr pa (plan.flatMap eu):=by
     by_cases hne:plan=[]
     .subst hne;exact aw.nil _ _
     .exact aw.turn hp hC.tl fun ad h1 ⟨ad',h2,h3⟩=>hpf hne ad h1 ad' h2 h3
    obtain ⟨gm,rfl⟩:=Le gk;go_wp2_with fail;go_loopg [6,7] pn (fun fu v6 v7 wx=>(∃nn,wx=wr.drewN nn)/\∃m:Nat,m=fu/\m<=pn/\v7= .int .i64 ((m:Int)-1)/\v6= .int .i64 (qQ (plan.drop m) f.nm))
    case atStart=>exact ⟨⟨0,rfl⟩,pn,rfl,Lt _,rfl,by rw [<-HP.out,List.drop_length];rfl⟩
    case round=>
     obtain ⟨⟨nn,rfl⟩,m,rfl,hmn,rfl,rfl⟩:=hrel;by_cases hm0:m=0
     .subst hm0;have em:(((0:Nat):Int)-1)= -1:=rfl;rw [em,List.drop_zero];have hsu:f.sure<=f.b.length:=(by have:=HSU.out;rw [<-HF.out] at this;exact this);have HKN:=Hd (show min (max (qQ plan f.nm) 0) ((f.b.length:Int)-(f.sure:Int))=(ip plan f.p:Int) from Cq plan f.p hsu);have hkl:f.sure+ip plan f.p<=f.b.length:=my plan f.p hsu;go_upto_region 12 with (fail);go_cut [6] (fun v wx=>v= .int .i64 (ip plan f.p:Int)/\∃nq,wx=wr.drewN nq)
      case first=>
       go_quiet (fail)
       all_goals go_wp2_with fail
       all_goals
        go_meet
        case rel=>exact ⟨by have:=HKN.out;congr 1;omega,_,rfl⟩
      case rest=>
       obtain ⟨rfl,nq,rfl⟩:=hcut;generalize hkn:ip plan f.p=kn at*;have HKN2:=Hd hkn;clear hkn HKN;have hC0:=hC.drewN nq;have hc1:(wr.drewN nq).cell? ⟨g,k*3+1,none⟩=some (.slice f.a f.b.length f.c):=c1;have hc2:(wr.drewN nq).cell? ⟨g,k*3+2,none⟩=some (.int .i64 (f.sure:Int)):=c2;have hfo:Own (wr.drewN nq) B 5 1 f.a f.b.length f.c (f.b.map bv):=hfown.keepAt fun _ _=>rfl;clear hC ha hb c0 c1 c2 hfown hpw;generalize wr.drewN nq=w0 at*;have ha:=hC0.step.at';have hb:=ha.blk.rule;unfold cJ at hb;rw [hd,HG.out,HLEN.out] at hb;have b0:w0.cell? ⟨r.d,0,none⟩=some (.slice (some ⟨g,0,none⟩) r.fs.length r'.lc):=hb 0;obtain ⟨n8,hn8⟩:=Le (f.sure+kn);have e8:(f.sure:Int)+(kn:Int)=(n8:Int):=oA;have hcl:f.b.length<=f.c:=hfo.le;have hn8l:n8<=f.b.length:=oA;have HN8:=Hd hn8;clear hn8;have hBr:B<=w0.heap.size:=At hB hC0.step.turn.size;go_wp2_with fail;clear e8 hkl;have hcut:=re (P:=prog) (t:=22) underlying22 krA f.a f.b.length f.c n8 oA;have hle:∀W,Old w0.drew W->∀b i (v:Value),w0.cell? ⟨b,i,none⟩=some v->W.cell? ⟨b,i,none⟩=some v:=fun W hW b i v hv=>((hW:Below w0.drew.heap.size _ W).cell (p:=⟨b,i,none⟩) (VV w0 _ hv)).trans hv;have l0:∀W,Old w0.drew W->W.cell? ⟨r.d,0,none⟩=some (.slice (some ⟨g,0,none⟩) r.fs.length r'.lc):=fun W hW=>hle W hW _ 0 _ b0;have l1:∀W,Old w0.drew W->W.cell? ⟨g,k*3+1,none⟩=some (.slice f.a f.b.length f.c):=fun W hW=>hle W hW _ (k*3+1) _ hc1;clear hle;refine aj true Old Old.refl Old.trans (.step 0 (.step 1 (.step 2 (.step 3 (.step 4 (.step 5 (.step 6 (.step 7 (.step 8 (.step 9 (.step 10 (.step 11 (.step 12 (.step 13 (.step 14 (.step 15 (.step 16 (.step 17 (.step 18 .done))))))))))))))))))) krA krA cdA ?_
       repeat (first|refine tsA ?_|refine tqA ?_)
       have hbt:ah w0.drew f.a (f.b.take n8):=by
        have:=(aw.take n8 hfo.row);rw [<-WE] at this;exact this
       refine an rfl rfl rfA (fun K hK=> ?_);go_wp2_with fail;refine (jD f.a n8 f.c (f.b.take n8) _ hbt (by rw [ltA];omega) oA).mono ?_;rintro e w3 ⟨a3,c3,rfl,hown3,hb3⟩;go_wp2_with fail;refine hK _ _ hb3 ?_;clear hK K l0 l1
       repeat (first|refine tsA ?_|refine tqA ?_)
       have hb03:Below w0.heap.size w0 w3:=ae (AT _ _).drew hb3;have hlb:(f.b.take n8).length=n8:=(by rw [ltA];omega);have hstep:=ha.both hBr hlt' HG.out (w3:=w3) hb03 ⟨f.nm,a3,c3,f.b.take n8,n8⟩ (by rw [HF.out]) (by rw [hlb];exact hown3) (by
        rw [di.p_set hlt' ha.nd (im plan) _ (by rw [<-HF.out];simp only [cQ.p,im,HN8.out];rw [<-HKN2.out];rfl)];exact Fv ha.ok plan _)
       rw [hlb] at hstep;have HSTEP:=Hd hstep;obtain ⟨_,_,cur3,hcur3⟩:=(ha.row.old (w':=w3) hb03).block_lt HG.out;have f3:=hcur3.free;have s3:w3.cell? ⟨g,k*3+1,none⟩=some (.slice f.a f.b.length f.c):=(hb03.cell (p:=⟨g,k*3+1,none⟩) (VV w0 _ hc1)).trans hc1;clear hstep hlb;have s4:w3.cell? ⟨g,k*3+2,none⟩=some (.int .i64 (f.sure:Int)):=(hb03.cell (p:=⟨g,k*3+2,none⟩) (VV w0 _ hc2)).trans hc2;have hng:r.d≠g:=by
        have:=Blk.ne (ha.blk.old hb03) hcur3 dcA;rw [hd] at this;exact this
       have s5:(w3.setCell ⟨g,k*3+1,none⟩ (.slice a3 n8 c3)).cell? ⟨r.d,0,none⟩=some (.slice (some ⟨g,0,none⟩) r.fs.length r'.lc):=(VJ (a:=⟨r.d,0,none⟩) (VU w3 ⟨g,k*3+1,none⟩ r.d _ hng)).trans ((hb03.cell (p:=⟨r.d,0,none⟩) (VV w0 _ b0)).trans b0);refine az rfl rfl rfA (fun K hK=> ?_);go_wp2_with fail;refine ap ?_;go_wp2_with fail;go_roundg (gm-1)
       case measure=>omega
       case rel=>
        refine ⟨k+1,_,oA,gnA,hC0.next hlt' ⟨f.nm,a3,c3,f.b.take n8,n8⟩ ?_ HSTEP.out.2 HSTEP.out.1⟩;rw [<-HF.out];simp only [cQ.p,im,HN8.out];rw [<-HKN2.out];rfl
     .obtain ⟨j,rfl⟩:∃j,m=j+1:=⟨m-1,oA⟩;have em:(((j+1:Nat):Int)-1)=(j:Int):=oA;rw [em];have hjl:j<plan.length:=(by rw [HP.out];omega);obtain ⟨pb,po,rfl,_,hc⟩:=aw.elem (g:=eu) (sz:=2) (fun _=>rfl) hpw oA j hjl;have p0:wr.cell? ⟨pb,po+j*2,none⟩=some (.string plan[j].1):=hc 0 (show 0<2 by omega);have p1:wr.cell? ⟨pb,po+j*2+1,none⟩=some (.int .i64 plan[j].2):=hc 1 (show 1<2 by omega);have HK:=Hd (zP plan f.nm j hjl);clear hc;have hjn:j<pn:=oA;generalize plan[j]=x at*;by_cases hx:x.1=f.nm
      .have t0:(x.1.toList==f.nm.toList)=true:=(by rw [mG];simp [hx]);have HX:=Hd hx;clear hx;go_wp2_with fail;go_quiet (fail);go_wp2_with fail;go_roundg j
       case measure=>omega
       case rel=>exact ⟨⟨_,rfl⟩,j,rfl,oA,gnA,by rw [HK.out,if_pos HX.out]⟩
      .have t0:(x.1.toList==f.nm.toList)=false:=(by rw [mG];simp [hx]);have HX:=Hd hx;clear hx;go_wp2_with fail;go_quiet (fail);go_wp2_with fail;go_roundg j
       case measure=>omega
       case rel=>exact ⟨⟨_,rfl⟩,j,rfl,oA,gnA,by rw [HK.out,if_neg HX.out]⟩
   .have hke:k=r.fs.length:=oA;have hfr:=ha.blk.free;rw [hd] at hfr;have hblk:=ha.blk;rw [hd] at hblk;have HC:=Hd hC;rw [HLEN.out] at hb;clear hC;go_wp2_with fail;go_ret;obtain ⟨q1,q2,q3,q4,q5,q6⟩:=HC.out.rest.out;have hpfs:r'.p.fs=r.p.fs.map (im plan):=by
     have:=HC.out.p.out;rw [hke,Vj (by simp [di.p]),List.drop_of_length_le (by simp [di.p]),Wq] at this;exact this
    have e1:dE r.p plan=(lq r.p plan,0):=(by unfold dE;rw [if_neg (by simp [di.p,HD.out])]);have hset:=((ha.blk.set 1 (.bool true)).set 2 (.bool false));have hhead:=ha.head (w':=(wr.setCell ⟨r'.d,1,none⟩ (.bool true)).setCell ⟨r'.d,2,none⟩ (.bool false)) {r' with down:=true,armed:=false} rfl rfl rfl rfl rfl rfl rfl ha.ok.left (by simpa [cJ] using hset) (fun x hx=>(VU _ ⟨r'.d,2,none⟩ x _ hx).trans (VU _ ⟨r'.d,1,none⟩ x _ hx));refine ⟨{r' with down:=true,armed:=false},?_,?_,HC.out.step.trans ⟨?_,by rw [<-hd];exact hhead,fun x hx=> .inl hx,rfl⟩⟩
    .rw [e1];first|rfl|simp
    .rw [e1];show (⟨r'.fs.map (·.p),true,false,r'.left,r'.plan⟩:aM)=_;rw [show r'.fs.map (·.p)=r'.p.fs from rfl,hpfs,q3,q4];rfl
    .exact aJ.setCell (aJ.setCell (aJ.refl _ _) (x:=⟨r.d,1,none⟩) (.inl (.inl hd.symm)) _) (x:=⟨r.d,2,none⟩) (.inl (.inl hd.symm)) _
theorem uk (w:World) (B:Nat) (r:di) (h:db w B r) (hB:B<=w.heap.size):
  Calls prog 68 #[.pointer (some ⟨r.d,0,none⟩)] w fun e w'=>e= .returned (.int .i64 (dz r.p).2)/\(r.down=false->∃r',r'.p=(dz r.p).1/\de B w r w' r'/\((dz r.p).2=0->r'.fs=r.fs/\r'.la=r.la/\r'.lc=r.lc)):=by
 have hb:=h.blk.rule;have hfr:=h.blk.free;have hlf:=h.ok.left;unfold cJ at hb;cases har:r.armed with
 |false=>
  rw [har] at hb;have HG:=Hd (show dz r.p=(r.p,0) by unfold dz;rw [if_pos (show r.p.armed=false from har)]);clear har;go_enter func68,ntmps68;go_wp2_with fail;go_ret;exact ⟨by rw [HG.out];first|rfl|simp,fun _=>⟨r,by rw [HG.out],de.refl h,fun _=>⟨rfl,rfl,rfl⟩⟩⟩
 |true=>
  rw [har] at hb;by_cases hl:0<r.left
  .have HG:=Hd (show dz r.p=({r.p with left:=r.p.left-1},0) by unfold dz;rw [if_neg (by simp [di.p,har]),if_pos (show 0<r.p.left from hl)]);have hl2:r.left<=9223372036854775807:=hlf.2;have hsub:IntKind.i64.wrap (r.left-1)=r.left-1:=(by rw [VZ];omega);have hhead:=h.head (w':=w.setCell ⟨r.d,3,none⟩ (.int .i64 (r.left-1))) {r with left:=r.left-1} rfl rfl rfl rfl rfl rfl rfl ⟨by show 0<=r.left-1;omega,by show r.left-1<=_;omega⟩ (by have:=h.blk.set 3 (.int .i64 (r.left-1));simpa [cJ] using this) (fun x hx=>VU _ ⟨r.d,3,none⟩ x _ hx);have HH:=Hd hhead;clear hhead hlf;go_enter func68,ntmps68;go_wp2_with fail;go_ret;refine ⟨by rw [HG.out];first|rfl|simp,fun _=>⟨{r with left:=r.left-1},by rw [HG.out];rfl,⟨aJ.setCell (aJ.refl _ _) (x:=⟨r.d,3,none⟩) (.inl (.inl rfl)) _,?_,fun x hx=> .inl hx,rfl⟩,fun _=>⟨rfl,rfl,rfl⟩⟩⟩;exact HH.out
  .have HG:=Hd (show dz r.p=(lq r.p r.p.plan,5) by unfold dz;rw [if_neg (by simp [di.p,har]),if_neg (show ¬0<r.p.left from hl)]);have hcr:=zx w B r r.pa r.plan.length r.pc r.plan h hB h.plan.row rfl h.plan.le_max (fun hne ad h1 ad' h2=>by
    obtain ⟨_,_,c1,q1⟩:=h.plan.block_lt h1;obtain ⟨_,_,c2,q2⟩:=h.row.block_lt h2;exact Blk.ne q1 q2 dcA)
   have HAR:=Hd har;clear hlf har;go_enter func68,ntmps68;go_wp2_with fail;refine hcr.mono ?_;clear hcr;rintro e w1 ⟨r1,rfl,hp1,hs1⟩;go_wp2_with fail;go_ret;refine ⟨by rw [HG.out];first|rfl|simp,fun hdn=>⟨r1,?_,hs1,fun e=>by rw [HG.out] at e;cases e⟩⟩;rw [HG.out,hp1];simp [dE,di.p,hdn]
theorem ug (w:World) (B:Nat) (r:di) (nm:bz) (h:db w B r):
  Calls prog 42 #[.pointer (some ⟨r.d,0,none⟩),.string nm] w fun e w'=>∃a n c,e= .returned (.tuple #[.slice a n c,.int .i64 (bG r.p nm).2])/\(bG r.p nm).1.length=n/\Own w' w.heap.size 5 1 a n c ((bG r.p nm).1.map bv)/\Below w.heap.size w w':=by
 have hat:=sH w B r nm h;have hb:=h.blk.rule;unfold cJ at hb;have hcnt:r.fs.length<=64:=(by have:=h.ok.count;simpa [di.p] using this);rcases oL r nm with ⟨hd,h1,h2⟩|⟨hd,h0,h1,h2,h3⟩|⟨k,hk,hd,h0,h1,h2,h3⟩
 .rw [h1,h2] at hat;have HR:=Hd (show bG r.p nm=([],5) by unfold bG;rw [if_pos (show r.p.down=true from hd)]);clear h1 h2 hd;go_enter func42,ntmps42;go_wp2_with fail;refine hat.mono ?_;rintro e w' ⟨rfl,rfl⟩;go_wp2_with fail;go_ret2;exact ⟨none,0,0,by rw [HR.out];first|rfl|simp,by rw [HR.out];rfl,by rw [HR.out];exact Own.nil _ _ _ _,AT _ _⟩
 .rw [h1,h2] at hat;have HR:=Hd (show bG r.p nm=([],4) by unfold bG;rw [if_neg (by simp [di.p,hd]),h3]);clear h0 h1 h2 h3 hd;go_enter func42,ntmps42;go_wp2_with fail;refine hat.mono ?_;rintro e w' ⟨rfl,rfl⟩;go_wp2_with fail;go_ret2;exact ⟨none,0,0,by rw [HR.out];first|rfl|simp,by rw [HR.out];rfl,by rw [HR.out];exact Own.nil _ _ _ _,AT _ _⟩
 .rw [h1,h2] at hat;have HR:=Hd (show bG r.p nm=(r.fs[k].b,0) by unfold bG;rw [if_neg (by simp [di.p,hd]),h3];rfl);have HD:=Hd hd;obtain ⟨g,hg,c0,c1,c2⟩:=h.elem k hk;have hfo:=h.files _ (VE hk);have hsz:r.fs[k].b.length<=1048576:=h.ok.size r.fs[k].p (VY.2 ⟨_,VE hk,rfl⟩);generalize r.fs[k]=f at*;rw [hg] at hb;clear h0 h1 h2 h3 hd c0 c2 hg;go_enter func42,ntmps42;go_wp2_with fail;refine hat.mono ?_;rintro e w' ⟨rfl,rfl⟩;go_wp2_with fail;refine (jD f.a f.b.length f.c f.b _ hfo.row rfl oA).mono ?_;rintro e w1 ⟨a1,c1,rfl,hown,hb1⟩;go_wp2_with fail;go_ret2;exact ⟨a1,f.b.length,c1,by rw [HR.out];first|rfl|simp,by rw [HR.out],by rw [HR.out];exact hown,hb1⟩
theorem zA {r:di} {nm:bz} {k:Nat} (hk:k<r.fs.length) (hd:r.down=false) (hf:eW r.p nm=some r.fs[k].p) (hn:r.fs[k].nm=nm) (b:List UInt8) (hb:¬fh-r.fs[k].b.length<b.length):bt r.p nm b=dz (jQ r.p nm fun f=>{f with b:=f.b++b}):=by
 unfold bt lH;rw [if_neg (by simp [di.p,hd]),hf];exact if_neg hb
theorem we (w:World) (B:Nat) (r:di) (nm:bz) (h:db w B r) (hB:B<=w.heap.size) (a:Option Addr) (len cap:Nat) (l:List UInt8) (hl:ah w a l) (hlen:l.length=len) (hcl:len<=maxLen):
  Calls prog 18 #[.pointer (some ⟨r.d,0,none⟩),.string nm,.slice a len cap] w fun e w'=>e= .returned (.int .i64 (bt r.p nm l).2)/\∃r',r'.p=(bt r.p nm l).1/\de B w r w' r':=by
 unfold maxLen at hcl;have HL:=Hd hlen;clear hlen;have hat:=sH w B r nm h;have hb:=h.blk.rule;unfold cJ at hb;have hcnt:r.fs.length<=64:=(by have:=h.ok.count;simpa [di.p] using this);rcases oL r nm with ⟨hd,h1,h2⟩|⟨hd,h0,h1,h2,h3⟩|⟨k,hk,hd,h0,h1,h2,h3⟩
 .rw [h1,h2] at hat;have HR:=Hd (show bt r.p nm l=(r.p,5) by unfold bt lH;rw [if_pos (show r.p.down=true from hd)]);clear h1 h2 hd;go_enter func18,ntmps18;go_wp2_with fail;refine hat.mono ?_;rintro e w' ⟨rfl,rfl⟩;go_wp2_with fail;go_ret;exact ⟨by rw [HR.out];first|rfl|simp,r,by rw [HR.out],de.refl h⟩
 .rw [h1,h2] at hat;have HR:=Hd (show bt r.p nm l=(r.p,4) by unfold bt lH;rw [if_neg (by simp [di.p,hd]),h3]);clear h0 h1 h2 h3 hd;go_enter func18,ntmps18;go_wp2_with fail;refine hat.mono ?_;rintro e w' ⟨rfl,rfl⟩;go_wp2_with fail;go_ret;exact ⟨by rw [HR.out];first|rfl|simp,r,by rw [HR.out],de.refl h⟩
 .rw [h1,h2] at hat;obtain ⟨g,hg,c0,c1,c2⟩:=h.elem k hk;have hfo:=h.files _ (VE hk);have hsz:r.fs[k].b.length<=1048576:=h.ok.size r.fs[k].p (VY.2 ⟨_,VE hk,rfl⟩);have hsu:r.fs[k].sure<=r.fs[k].b.length:=h.ok.sure r.fs[k].p (VY.2 ⟨_,VE hk,rfl⟩);have hwrap:IntKind.i64.wrap (1048576-(r.fs[k].b.length:Int))=1048576-(r.fs[k].b.length:Int):=(by rw [VZ];omega);by_cases hbig:1048576-r.fs[k].b.length<len
  .have t0:decide (1048576-(r.fs[k].b.length:Int)<(len:Int))=true:=soA;have HR:=Hd (show bt r.p nm l=(r.p,3) by
    unfold bt lH;rw [if_neg (by simp [di.p,hd]),h3];exact if_pos (by rw [HL.out];exact hbig))
   generalize r.fs[k]=f at*;rw [hg] at hb;clear h0 h1 h2 h3 hd c0 c2 hbig hg;go_enter func18,ntmps18;go_wp2_with fail;refine hat.mono ?_;rintro e w' ⟨rfl,rfl⟩;go_wp2_with fail;go_ret;exact ⟨by rw [HR.out];first|rfl|simp,r,by rw [HR.out],de.refl h⟩
  .have t0:decide (1048576-(r.fs[k].b.length:Int)<(len:Int))=false:=soA;have HR:=Hd (zA hk hd h3 h0 l (by rw [HL.out];exact hbig));have hlen2:len<=1048576:=oA;have hsum:r.fs[k].b.length+len<=1048576:=oA;obtain ⟨f,hf⟩:=Le (r.fs[k]);rw [<-hf] at c1 hfo hsz hsu hwrap t0 hsum h0;have HF:=Hd hf;have HN:=Hd h0;have HG:=Hd hg;have HD:=Hd hd;rw [hg] at hb;clear h0 h1 h2 h3 hd c0 c2 hbig hf hg;go_enter func18,ntmps18;go_wp2_with fail;refine hat.mono ?_;rintro e w' ⟨rfl,rfl⟩;go_wp2_with fail;refine (jD f.a f.b.length f.c f.b _ hfo.row rfl oA).mono ?_;rintro e w1 ⟨a1,cc1,rfl,hown1,hb1⟩;have hl1:=hl.below hb1;have lift1:∀b i (v:Value),w'.cell? ⟨b,i,none⟩=some v->w1.cell? ⟨b,i,none⟩=some v:=fun b i v hv=>(hb1.cell (p:=⟨b,i,none⟩) (VV w' _ hv)).trans hv;have b0:=lift1 r.d 0 (.slice (some ⟨g,0,none⟩) r.fs.length r.lc) (hb 0);have c1':=lift1 g (k*3+1) _ c1;have hz1:=hb1.size;clear lift1 hb c1;go_wp2_with fail;have hle:∀W,bQ 5 w1.drew W->∀b i cs t (v:Value),Blk w1 b cs t->t≠5->w1.cell? ⟨b,i,none⟩=some v->W.cell? ⟨b,i,none⟩=some v:=fun W hW b i cs t v hB1 hne hv=>(VJ (a:=⟨b,i,none⟩) (hW.block b cs t (0,0) hB1 hne)).trans hv;have l0:∀W,bQ 5 w1.drew W->W.cell? ⟨r.d,0,none⟩=some (.slice (some ⟨g,0,none⟩) r.fs.length r.lc):=fun W hW=>hle W hW _ 0 _ _ _ (h.blk.old hb1) dcA b0;obtain ⟨_,_,cur1,hcur1⟩:=(h.row.old hb1).block_lt HG.out;refine jZ 5 (.step 0 (.step 1 (.step 2 (.step 3 (.step 4 (.step 5 (.step 6 (.step 7 (.step 8 (.step 9 (.step 10 .done))))))))))) krA krA cdA ?_
   repeat (first|refine tsA ?_|refine tqA ?_)
   refine an rfl rfl rfA (fun K hK=> ?_);refine eh (.tmp 46) (.tmp 47) 22 rfl nP rfl (hown1.drew) rfl (hl1.drew) (by rw [lmA,HL.out,Vk]) (cO _) mxA oA (by exact hz1) ?_;intro a2 cc2 w2 hown2 hg2;refine hK _ _ (bQ.grown hown1.drew hg2) ?_;clear hK K l0 hle;have hb2:Below w'.heap.size w' w2:=hown1.drew.grown hb1.drew (Lt _) hg2 hz1;have hcur2:=hcur1.drew.keepNot (bQ.grown hown1.drew hg2) dcA;have f2:=hcur2.free;have s2:w2.cell? ⟨g,k*3+1,none⟩=some (.slice f.a f.b.length f.c):=(hcur2.rule _).trans ((hcur1.rule _).symm.trans c1');have hlb:(f.b++l).length=f.b.length+len:=(by rw [laA,HL.out]);have HSTEP:=Hd (h.onlyB hB hk HG.out hb2 ⟨f.nm,a2,cc2,f.b++l,f.sure⟩ (by rw [HF.out]) (by rw [HF.out]) (by rw [hlb,VG];exact hown2) (by
    rw [di.p_set hk h.nd (fun q=>{q with b:=q.b++l}) _ (by rw [<-HF.out];rfl)];refine h.ok.upd _ _ (fun _ _=>rfl) (fun q hq hqn=> ?_) (fun q hq hqn=> ?_)
    .have:=h.ok.sure q hq;simp;omega
    .obtain ⟨f',hf',rfl⟩:=VY.1 hq;have e:f'=r.fs[k]:=db.same h hf' (VE hk) hqn;show (f'.b++l).length<=fh;rw [e,<-HF.out,hlb];exact hsum))
   rw [hlb] at HSTEP
   repeat (first|refine tsA ?_|refine tqA ?_)
   refine az rfl rfl rfA (fun K hK=> ?_);go_wp2_with fail;refine ap ?_;have hgo:=uk _ B _ HSTEP.out.at' (At hB HSTEP.out.turn.size);clear s2 f2 c1' b0;go_wp2_with fail;refine hgo.mono ?_;rintro e w4 ⟨rfl,hr4⟩;obtain ⟨r4,hp4,hs4,_⟩:=hr4 HD.out;have hpe:di.p {r with fs:=r.fs.set k ⟨f.nm,a2,cc2,f.b++l,f.sure⟩}=jQ r.p nm (fun q=>{q with b:=q.b++l}):=by
    rw [di.p_set hk h.nd (fun q=>{q with b:=q.b++l}) _ (by rw [<-HF.out];rfl),<-HF.out,HN.out]
   go_wp2_with fail;go_ret;refine ⟨?_,r4,?_,HSTEP.out.trans hs4⟩
   .rw [HR.out,<-hpe];first|rfl|simp
   .rw [HR.out,<-hpe];exact hp4
end
end Go.Proofs.YtioigihakjlopaaGreat
