import Derived.Test.YtioigihakjlopaaGreatVR01
import Derived.Maps.RangeWalk
namespace Go.Proofs.YtioigihakjlopaaGreat
open Go.Proofs.Tryz
set_option linter.unusedVariables false
set_option linter.unusedSimpArgs false
set_option maxHeartbeats 16000000
set_option maxRecDepth 100000
section
open Go.RowKit
theorem dU:bC prog 22 5 1 1:=bC.mk (z:= .int .u8 0) underlying22 krA rfl oA
structure WC where
 c:Nat
 a:Lt
 cap:Nat
 bs:Le
def fS (q:WC) (x:Nat):Prop:=x=q.c\/q.a.map (·.block)=some x
def iZ (q:WC):AS:= #[.slice q.a q.bs.length q.cap,.int .i64 0,.bool false]
structure WAt (w:As) (B:Nat) (q:WC):Prop where
 ge:B<=q.c
 blk:Blk w q.c (iZ q) 184
 row:Own w B 5 1 q.a q.bs.length q.cap (q.bs.map bv)
structure fR (B:Nat) (w:As) (q:WC) (w':As) (q':WC):Prop where
 turn:aJ (fS q) w w'
 at':WAt w' B q'
 foot':∀x,fS q' x->fS q x\/w.heap.size<=x
 c:q'.c=q.c
section
variable {w w' w'':As} {B:Nat} {q q' q'':WC}
theorem WAt.keep (h:WAt w B q) (A:∀x,fS q x->w'.heap[x]? =w.heap[x]?):WAt w' B q:=
 ⟨h.ge,(A _ (.inl rfl)).trans h.blk,h.row.keepAt fun x hx=>A _ (.inr (by rw [hx];rfl))⟩
theorem WAt.lt (h:WAt w B q) {x:Nat} (hx:fS q x):B<=x/\x<w.heap.size:=by
 rcases hx with rfl|hx
 .exact ⟨h.ge,h.blk.lt⟩
 .rw [WH] at hx;obtain ⟨E,A,rfl⟩:=hx;obtain ⟨C,D,_⟩:=h.row.block_lt A;exact ⟨C,D⟩
theorem WAt.old (h:WAt w B q) (A:Below w.heap.size w w'):WAt w' B q:=h.keep fun x hx=>A.block x (h.lt hx).2
theorem fR.refl (h:WAt w B q):fR B w q w q:=⟨aJ.refl _ _,h,fun _ hx=> .inl hx,rfl⟩
theorem fR.trans (h:fR B w q w' q') (h':fR B w' q' w'' q''):fR B w q w'' q'':=
 ⟨h.turn.trans h'.turn h.foot',h'.at',fun x hx=>by
  rcases h'.foot' x hx with A|A
  .exact h.foot' x A
  .exact .inr (Vd h.turn.size A),h'.c.trans h.c⟩
theorem fR.pre {w0:As} (h:fR B w q w' q') (C:Below w0.heap.size w0 w):fR B w0 q w' q':=
 ⟨(aJ.of_below (F:=fS q) C).trans h.turn fun _ hx=> .inl hx,h.at',fun x hx=>by
  rcases h.foot' x hx with A|A
  .exact .inl A
  .exact .inr (Vd C.size A),h.c⟩
theorem fR.below (h:fR B w q w' q') (A:WAt w B q) (C:B<=w.heap.size):Below B w w':=h.turn.below (fun _ hx=>(A.lt hx).1) C
theorem fR.blk (h:fR B w q w' q') {b:Nat} {cs:AS} {t:TypeId} (A:Blk w b cs t) (C:¬fS q b):Blk w' b cs t/\¬fS q' b:=
 ⟨(h.turn.block b A.lt C).trans A,fun hx=>by
  rcases h.foot' b hx with D|D
  .exact C D
  .have:=A.lt;omega⟩
end
theorem tK {a:Lt} {c x:Nat} (h:bI a c=some x):a.map (·.block)=some x:=by
 unfold bI at h;split at h
 .cases h
 .exact h
theorem Fv {a:Lt} {c:Nat} (h:0<c):bI a c=a.map (·.block):=by
 unfold bI;rw [VV oA]
theorem Nk (w:As) (B:Nat) (q:WC) (A:Nat) (y:UInt8) (C:WAt w B q) (hB:B<=w.heap.size) (T:Blk w A #[bv y] 5) (f:¬fS q A) (hz:q.bs.length<1000000000000):
  Calls prog 179 #[.pointer (some ⟨q.c,0,none⟩),.pointer (some ⟨A,0,none⟩)] w fun e w'=>e= .returned (.tuple #[])/\∃q',Hid (q'.bs=q.bs++ [y])/\fR B w q w' q':=by
 have g:=C.blk.rule;unfold iZ at g;have A0:=C.blk.lt;have A1:=T.lt;go_enter func179,ntmps179;go_wp2_with fail;have j:∀W,au (fun x=>x=q.c\/x=A) w.drew W->W.cell? ⟨q.c,0,none⟩=some (.slice q.a q.bs.length q.cap):=fun W J=>(show Blk W q.c (iZ q) 184 from (J.2 _ (.inl rfl)).trans C.blk).rule 0;have m:∀W,au (fun x=>x=q.c\/x=A) w.drew W->W.cell? ⟨A,0,none⟩=some (.int .u8 (U8 y)):=fun W J=>(show Blk W A #[bv y] 5 from (J.2 _ (.inr rfl)).trans T).rule 0;refine ah true (au (fun x=>x=q.c\/x=A)) (au.refl _) (fun _ _ _ E L=>au.trans E L) (.step 0 (.step 1 (.step 2 (.step 3 (.step 4 (.step 5 (.step 6 (.step 7 (.step 8 (.step 9 (.step 10 (.step 11 (.step 12 .done))))))))))))) krA krA cdA ?_
 repeat refine txA ?_
 have Z:=C.row.drew.alloc (.cells #[.int .u8 (U8 y)] 5);refine am rfl rfl rfA (fun K D=> ?_);go_wp2_with fail;refine D _ _ (au.below ((VW _ _).alloc (VU _) _) (fun x hx=>by rcases hx with rfl|rfl<;>assumption)) ?_
 clear D K;refine am rfl rfl rfA (fun K D=> ?_);refine iY (.tmp 13) (.tmp 17) 22 rfl dU rfl Z rfl (av.new' _ _ _ _ skA) rfA oA (by exact de _ rfl) mxA oA soA ?_;intro N c2 U O I X;have S:au (fun x=>x=q.c\/x=A) (w.drew.alloc (.cells #[.int .u8 (U8 y)] 5)) U:=⟨I.size,fun x hx=>I.block x (by rcases hx with rfl|rfl<;>simp<;>omega) (fun e=>by
  have V:q.a.map (·.block)=some x:=tK e.symm;rcases hx with rfl|rfl
  .obtain ⟨ad,n,o⟩:=WH.1 V;obtain ⟨_,_,A2,Y⟩:=C.row.block_lt n;exact Blk.ne Y C.blk dcA o
  .exact f (.inr V))⟩
 have G:Blk U q.c (iZ q) 184:=(S.2 _ (.inl rfl)).trans (C.blk.drew.alloc _);refine D _ _ S ?_;clear D K j m;have d:=G.rule;have f2:=G.free;unfold iZ at d
 repeat refine txA ?_
 refine az rfl rfl rfA (fun K D=> ?_);go_wp2_with fail;refine aq ?_;go_wp2_with fail;refine YO (v:= .tuple #[]) (WZ rfl _ _ _) rfl ⟨rfl,⟨q.c,N,c2,q.bs++ [y]⟩,Hd rfl,⟨?_,⟨C.ge,?_,?_⟩,?_,rfl⟩⟩
 .exact (((((aJ.refl (fS q) w).drew).alloc _).trans (aJ.of_grown (F:=fS q) I fun k s=> .inr (tK s)) fun _ h=> .inl h)).setCell (.inl (.inl rfl)) _
 .have:=G.set 0 (.slice N (q.bs.length+1) c2);unfold iZ at this⊢;simpa using this
 .have:=O.setCell_apart G dcA 0 (.slice N (q.bs.length+1) c2);simpa [bv] using this
 .rintro x (hx|hx)
  .exact .inl (.inl hx)
  .rw [<-Fv (c:=c2) (by have:=O.le;omega)] at hx;rcases X with E|⟨b,E,L⟩
   .rw [E] at hx;exact .inl (.inr (tK hx))
   .rw [E] at hx;cases hx;refine .inr ?_;simp at L;omega
def NumW (w:As) (B:Nat) (q:WC) (v:Int) (f:Nat) (v4 v5:Value) (wr:As):Prop:=
 ∃(k:Nat) (z:Int) (q':WC),k+f=8/\v5= .int .i64 (56-8*(k:Int))/\v4= .int .u64 z/\Hid (q'.bs=q.bs++(be8 v).take k)/\fR B w q wr q'
theorem Dd (w:As) (B:Nat) (q:WC) (C D:Nat) (v:Int) (f:WAt w B q) (hB:B<=w.heap.size) (hx:w.cell? ⟨C,D,none⟩=some (.int .i64 v)) (g:¬fS q C) (hz:q.bs.length+8<1000000000000):
  Calls prog 148 #[.pointer (some ⟨q.c,0,none⟩),.pointer (some ⟨C,D,none⟩)] w fun e w'=>e= .returned (.tuple #[])/\∃q',Hid (q'.bs=q.bs++be8 v)/\fR B w q w' q':=by
 have X:=Vx w _ hx;go_enter func148,ntmps148;go_wp2_with fail;go_loopg [4,5] 8 (NumW w B q v)
 case atStart=>exact ⟨0,0,q,rfl,rfl,rfl,Hd skA,fR.refl f⟩
 case round=>
  obtain ⟨k,z,q',hk,rfl,rfl,E,A⟩:=hrel;have s:wr.cell? ⟨C,D,none⟩=some (.int .i64 v):=(VE (a:=⟨C,D,none⟩) (A.turn.block C X g)).trans hx;by_cases Y:k<8
  .have t0:decide ((0:Int)<=56-8*(k:Int))=true:=soA;have v3:(0:Int)<=56-8*(k:Int):=oA;have j:(56-8*(k:Int)).toNat=56-8*k:=oA;have v5:IntKind.i64.wrap (56-8*(k:Int)-8)=56-8*((k+1:Nat):Int):=(by rw [VR];omega);go_upto_region 5 with fail;obtain ⟨y,F⟩:∃y:UInt8,y=⟨((BitVec.ofInt 64 v)>>>(56-8*k)).setWidth 8⟩:=⟨_,rfl⟩;have T:IntKind.u64.wrap v/2^(56-8*k)%256=U8 y:=(by rw [F];exact pC v _);rw [T];have m:=Hd F;clear F T j;have L:Below wr.heap.size wr (wr.alloc (.cells #[.int .u8 (U8 y)] 5)):=(VW _ _).alloc (VU _) _;have N:Blk (wr.alloc (.cells #[.int .u8 (U8 y)] 5)) wr.heap.size #[bv y] 5:=Blk.new wr #[bv y] 5;have O:¬fS q' wr.heap.size:=fun h=>(by have:=(A.at'.lt h).2;omega);have n:q'.bs.length<1000000000000:=(by rw [E.out,laA,ltA,an];omega);have G:=Nk _ B q' wr.heap.size y (A.at'.old L) (by have:=A.turn.size;simp;omega) N O n;rw [A.c] at G;go_wp2_with fail;refine G.mono ?_;clear G;rintro e w2 ⟨rfl,U,W,S⟩;have o:=(S.blk N O).1.rule;unfold bv at o;have Z:=A.trans (S.pre L);have I:U.bs=q.bs++(be8 v).take (k+1):=(by rw [W.out,E.out,uH v k Y,Vf,<-m.out]);have b:=Hd I;clear I;go_wp2_with fail;go_roundg (gk-1)
   case measure=>omega
   case rel=>exact ⟨k+1,_,U,oA,gnA,rfl,b,Z⟩
  .have hk8:k=8:=oA;subst hk8;have V:=A.at'.blk.rule;unfold iZ at V;rw [A.c] at V;have J:q'.bs=q.bs++be8 v:=(by rw [E.out,VZ (by rw [an];omega)]);have d:=Hd J;clear J;go_wp2_with fail;refine WR (v:= .tuple #[]) (WZ rfl _ _ _) rfl ⟨rfl,q',d,A⟩
theorem kW {w:As} {b o:Nat} {v:Value} (h:w.cell? ⟨b,o,none⟩=some v):w.setCell ⟨b,o,none⟩ v=w:=by
 unfold World.cell? at h;have e:(w.setCell ⟨b,o,none⟩ v).heap=w.heap:=by
  apply XA;intro i;by_cases A:i=b
  .subst A;simp only [World.setCell,Array.getElem?_modify,YV];cases C:w.heap[i]? with
   |none=>rfl
   |some ob=>
    rw [C] at h;cases ob with
    |cells c t fr=>
     simp only [Xt,Option.isSome_none,YR,if_false] at h⊢;have:c.setIfInBounds o v=c:=by
      apply XA;intro j;rw [Vs];split
      .rename_i e;subst e;split
       .exact h.symm
       .rename_i hj;rw [Wz oA]
      .rfl
     rw [this]
    |_=>simp at h
  .exact Vq _ _ _ _ A
 have:w.setCell ⟨b,o,none⟩ v={w with heap:=(w.setCell ⟨b,o,none⟩ v).heap}:=rfl;rw [this,e]
theorem ll {w w':As} {b o:Nat} (h:w'.heap[b]? =w.heap[b]?):w'.frozen? ⟨b,o,none⟩=w.frozen? ⟨b,o,none⟩:=by
 unfold World.frozen?;rw [h]
abbrev Pt:=Nat×Nat×Int
def ptV (x:Pt):Value:= .pointer (some ⟨x.1,x.2.1,none⟩)
def QD (w:As) (B:Nat) (q:WC) (xs:List Pt) (f:Nat) (v8:Value) (wr:As):Prop:=
 ∃(k:Nat) (q':WC),k+f=xs.length/\v8= .int .i64 (k:Int)/\Hid (q'.bs=q.bs++(xs.take k).flatMap fun x=>be8 x.2.2)/\fR B w q wr q'
theorem FP (A:List Pt):(A.flatMap fun x=>be8 x.2.2).length=8*A.length:=by
 induction A with
 |nil=>rfl
 |cons x l ih=>rw [Vn,laA,ih,an,VC];omega
theorem Ho (w:As) (B:Nat) (q:WC) (g n:Nat) (A:List Pt) (m:WAt w B q) (o:B<=w.heap.size) (s:Blk w g (A.map ptV).toArray 209) (Z:¬fS q g) (T:A.length=n) (hx:∀x∈A,w.cell? ⟨x.1,x.2.1,none⟩=some (.int .i64 x.2.2)/\¬fS q x.1) (hz:q.bs.length+8*n+8<1000000000000):
  Calls prog 146 #[.pointer (some ⟨q.c,0,none⟩),.slice (some ⟨g,0,none⟩) n n] w fun e w'=>e= .returned (.tuple #[])/\∃q',Hid (q'.bs=q.bs++A.flatMap fun x=>be8 x.2.2)/\fR B w q w' q':=by
 have E:=Hd T;clear T;go_enter func146,ntmps146;go_wp2_with fail;go_loopg [8] n (QD w B q A)
 case atStart=>exact ⟨0,q,by rw [E.out];omega,rfl,Hd skA,fR.refl m⟩
 case round=>
  obtain ⟨k,q',y,rfl,I,C⟩:=hrel;rw [E.out] at y;by_cases b:k<n
  .have t0:decide ((k:Int)<(n:Int))=true:=soA;have J:k<A.length:=(by rw [E.out];exact b);obtain ⟨F,G⟩:=hx A[k] (VQ J);have U:wr.cell? ⟨g,k,none⟩=some (ptV A[k]):=by
    rw [(C.blk s Z).1.rule];simp [J]
   have V:=Hd (Vj J);generalize A[k]=x at*;obtain ⟨D,N,v⟩:=x;unfold ptV at U;dsimp only at F G U V;have S:wr.cell? ⟨D,N,none⟩=some (.int .i64 v):=(VE (a:=⟨D,N,none⟩) (C.turn.block D (Vx w _ F) G)).trans F;have d:¬fS q' D:=fun h=>by
    rcases C.foot' D h with W|W
    .exact G W
    .have:=Vx w _ F;simp at this;omega
   have hl:q'.bs.length+8<1000000000000:=by
    rw [I.out,laA,FP,ltA];have:min k A.length<=n:=oA;omega
   have O:=Dd wr B q' D N v C.at' (Vd o C.turn.size) S d hl;rw [C.c] at O;clear hx F G S;go_wp2_with fail;refine O.mono ?_;clear O;rintro e w2 ⟨rfl,X,Y,f⟩;have L:=Hd (show X.bs=q.bs++(A.take (k+1)).flatMap fun x=>be8 x.2.2 by rw [Y.out,I.out,V.out,Wo,Vf];simp);have j:=C.trans f;go_wp2_with fail;go_roundg (gk-1)
   case measure=>omega
   case rel=>exact ⟨k+1,X,by rw [E.out];omega,gnA,L,j⟩
  .have t0:decide ((k:Int)<(n:Int))=false:=soA;have L:=Hd (show q'.bs=q.bs++A.flatMap fun x=>be8 x.2.2 by rw [I.out,VZ (by rw [E.out];omega)]);go_wp2_with fail;refine WR (v:= .tuple #[]) (WZ rfl _ _ _) rfl ⟨rfl,q',L,C⟩
theorem Jd (w:As) (B:Nat) (q:WC) (A C:Nat) (v:Int) (E:WAt w B q) (g:B<=w.heap.size) (hx:w.cell? ⟨A,C,none⟩=some (.int .i8 v)) (b:w.frozen? ⟨A,C,none⟩=false) (T:wf8 v) (U:¬fS q A) (j:q.bs.length+8<1000000000000):
  Calls prog 145 #[.pointer (some ⟨q.c,0,none⟩),.pointer (some ⟨A,C,none⟩)] w fun e w'=>e= .returned (.tuple #[])/\∃q',Hid (q'.bs=q.bs++be8 v)/\fR B w q w' q':=by
 have G:=Vx w _ hx;have J:=E.blk.rule;unfold iZ at J;have A0: -128<=v/\v<=127:=by
  simp only [wf8,Lit.wf,IntKind.min,IntKind.max,IntKind.signed,IntKind.bits] at T;simp at T;omega
 have d1:decide (v< -128)=false:=soA;have d2:decide (127<v)=false:=soA;have e1:IntKind.i64.wrap v=v:=(by rw [VR];omega);have e2:IntKind.i8.wrap v=v:=(by simp only [IntKind.wrap,IntKind.bits,IntKind.signed];simp;omega);go_enter func145,ntmps145;go_wp2_with fail;have m:∀W,Old w.drew W->W.cell? ⟨q.c,1,none⟩=some (.int .i64 0):=fun W L=>(by rw [L.cell (p:=⟨q.c,1,none⟩) E.blk.lt];exact J 1);have n:∀W,Old w.drew W->W.cell? ⟨A,C,none⟩=some (.int .i8 v):=fun W L=>(by rw [L.cell (p:=⟨A,C,none⟩) G];exact hx);refine ah true Old Old.refl Old.trans (.step 0 (.step 1 (.step 2 (.step 3 (.step 4 (.step 5 (.step 6 (.step 7 (.step 8 (.step 9 (.step 10 .done))))))))))) krA krA cdA ?_
 repeat refine txA ?_
 refine am rfl rfl rfA (fun K N=> ?_);go_wp2_with fail;refine N _ _ ((VW _ _).alloc (VU _) _) ?_;clear N K m n
 repeat refine txA ?_
 refine az rfl rfl rfA (fun K N=> ?_);go_wp2_with fail;refine aq ?_;go_upto_region 1 with fail;refine ag (fun W=>Blk W w.heap.size #[.int .i64 v] 3/\Below w.heap.size w W) ⟨(Blk.new w #[.int .i64 v] 3).drew,cL⟩ ?_;rintro O ⟨I,D⟩;have S:¬fS q w.heap.size:=fun h=>(by have:=(E.lt h).2;omega);have A1:=I.lt;have V:=Dd O B q w.heap.size 0 v (E.old D) (Vd g D.size) (I.rule 0) S j;have d:O.cell? ⟨A,C,none⟩=some (.int .i8 v):=(by rw [D.cell (p:=⟨A,C,none⟩) G];exact hx);have Y:O.frozen? ⟨A,C,none⟩=false:=(ll (D.block A G)).trans b;have A2:=E.old D;clear J;go_wp2_with fail;refine V.mono ?_;clear V;rintro e X ⟨rfl,o,Z,F⟩;have cn:=(F.blk I S).1.rule;have f:X.cell? ⟨A,C,none⟩=some (.int .i8 v):=(VE (a:=⟨A,C,none⟩) (F.turn.block A (by have:=D.size;omega) U)).trans d;have y:X.frozen? ⟨A,C,none⟩=false:=(ll (F.turn.block A (by have:=D.size;omega) U)).trans Y;have s:=kW f;go_wp2_with fail;refine WR (v:= .tuple #[]) (WZ rfl _ _ _) rfl ⟨rfl,o,Z,F.pre D⟩
theorem fR.cell {w w':As} {B:Nat} {q q':WC} (h:fR B w q w' q') {b o:Nat} {v:Value} (A:w.cell? ⟨b,o,none⟩=some v) (C:¬fS q b):w'.cell? ⟨b,o,none⟩=some v:=
 (VE (a:=⟨b,o,none⟩) (h.turn.block b (Vx w _ A) C)).trans A
theorem fR.off {w w':As} {B:Nat} {q q':WC} (h:fR B w q w' q') {b:Nat} (D:b<w.heap.size) (C:¬fS q b):¬fS q' b:=fun hx=>by
 rcases h.foot' b hx with A|A
 .exact C A
 .omega
theorem WAt.fresh {w:As} {B:Nat} {q:WC} (h:WAt w B q):¬fS q w.heap.size:=fun hx=>by have:=(h.lt hx).2;omega
theorem jk {α:Type} {g:α->Le} {n:Nat} (h:∀x,(g x).length=n):∀l:List α,(l.flatMap g).length=n*l.length
 | []=>rfl
 |x::l=>by rw [Vn,laA,h,jk h l,VC,Nat.mul_add,Vr,Zx]
theorem vY (l:List Int):l.flatMap bi=l.map (Value.int .i64):=by
 induction l with
 |nil=>rfl
 |cons x l ih=>rw [Vn,ih];rfl
def mD (w:As) (b o:Nat) (l:AT):Prop:=∀j (hj:j<l.length),w.cell? ⟨b,o+j,none⟩=some l[j]
theorem fR.cells {w w':As} {B:Nat} {q q':WC} (h:fR B w q w' q') {b o:Nat} {l:AT} (A:mD w b o l) (C:¬fS q b):mD w' b o l:=fun j D=>h.cell (A j D) C
theorem Mn (w:As) (B:Nat) (q:WC) (b o:Nat) (u:ci) (F:WAt w B q) (O:B<=w.heap.size) (hx:mD w b o u.cells) (G:¬fS q b) (W:q.bs.length+100<1000000000000):
  Calls prog 150 #[.pointer (some ⟨q.c,0,none⟩),.pointer (some ⟨b,o,none⟩)] w fun e w'=>e= .returned (.tuple #[])/\∃q',Hid (q'.bs=q.bs++km u)/\fR B w q w' q':=by
 obtain ⟨i,c⟩:=u;have I:w.cell? ⟨b,o,none⟩=some (.int .i64 i):=hx 0 (by show 0<2;omega);have S:w.cell? ⟨b,o+1,none⟩=some (.int .i64 c):=hx 1 (by show 1<2;omega);have E:=Vx w _ I;clear hx;go_enter func150,ntmps150;go_wp2_with fail;refine ah false (au (fun _=>False)) (au.refl _) (fun _ _ _ T U=>au.trans T U) (.step 0 (.step 1 (.step 2 (.step 3 (.step 4 (.step 5 (.step 6 (.step 7 (.step 8 .done))))))))) krA krA cdA ?_
 repeat refine txA ?_
 refine am rfl rfl rfA (fun K C=> ?_);go_wp2_with fail;refine C _ _ ⟨skA,fun _ h=>h.elim⟩ ?_;clear C K
 repeat refine txA ?_
 refine am rfl rfl rfA (fun K C=> ?_);go_wp2_with fail;have A:Below w.heap.size w (w.alloc (.cells #[.pointer (some ⟨b,o,none⟩),.pointer (some ⟨b,o+1,none⟩)] 209)).drew:=cL;have J:=Ho _ B q w.heap.size 2 [(b,o,i),(b,o+1,c)] (F.old A) (Vd O A.size) (Blk.new w #[.pointer (some ⟨b,o,none⟩),.pointer (some ⟨b,o+1,none⟩)] 209).drew F.fresh rfl (fun x hx=>by
  simp only [Vk,List.mem_nil_iff,Zg] at hx;rcases hx with rfl|rfl
  .exact ⟨by rw [A.cell (p:=⟨b,_,none⟩) E];exact I,G⟩
  .exact ⟨by rw [A.cell (p:=⟨b,_,none⟩) E];exact S,G⟩) oA
 refine J.mono ?_;clear J;rintro e X ⟨rfl,V,L,D⟩;have N:=D.turn.size;replace D:=D.pre A;go_wp2_with fail;refine C _ _ ⟨by simpa using N,fun _ h=>h.elim⟩ ?_;clear C K;refine aq ?_;go_wp2_with fail;refine WR (v:= .tuple #[]) (WZ rfl _ _ _) rfl ⟨rfl,V,Hd ?_,D⟩;rw [L.out];simp [km]
def zY (w:As) (B:Nat) (q:WC) (l:List Int) (f:Nat) (v50:Value) (wr:As):Prop:=
 ∃(k:Nat) (q':WC),k+f=l.length/\v50= .int .i64 (k:Int)/\Hid (q'.bs=q.bs++be8 l.length++(l.take k).flatMap be8)/\fR B w q wr q'
theorem AQ (w:As) (B:Nat) (q:WC) (I N:Nat) (s:Sl) (l:List Int) (O:WAt w B q) (hB:B<=w.heap.size) (hx:w.cell? ⟨I,N,none⟩=some (.slice s.a s.n s.c)) (S:mC w s l) (hfx:¬fS q I) (A4:l≠ []->∀ad,s.a=some ad->¬fS q ad.block) (hz:q.bs.length+8*s.n+200<1000000000000):
  Calls prog 147 #[.pointer (some ⟨q.c,0,none⟩),.pointer (some ⟨I,N,none⟩),.int .i64 8,.func (.func 148) #[.pointer (some ⟨q.c,0,none⟩)] #[]] w fun e w'=>e= .returned (.tuple #[])/\∃q',Hid (q'.bs=q.bs++(be8 l.length++l.flatMap be8))/\fR B w q w' q':=by
 have A5:=Vx w _ hx;have D:=O.blk.rule;unfold iZ at D;have E:=Hd S.2.1;have B1:=S.2.2.2.2.1;obtain ⟨sa,A,sc⟩:=s;dsimp only at*;go_enter func147,ntmps147;go_wp2_with fail;have r1:∀W,Old w.drew W->W.cell? ⟨q.c,1,none⟩=some (.int .i64 0):=fun W Z=>(by rw [Z.cell (p:=⟨q.c,1,none⟩) O.blk.lt];exact D 1);have r2:∀W,Old w.drew W->W.cell? ⟨I,N,none⟩=some (.slice sa A sc):=fun W Z=>(by rw [Z.cell (p:=⟨I,N,none⟩) A5];exact hx);refine ah true Old Old.refl Old.trans (.step 0 (.step 1 (.step 2 (.step 3 (.step 4 (.step 5 (.step 6 (.step 7 (.step 8 (.step 9 (.step 10 .done))))))))))) krA krA cdA ?_
 repeat refine txA ?_
 refine am rfl rfl rfA (fun K d=> ?_);go_wp2_with fail;refine d _ _ ((VW _ _).alloc (VU _) _) ?_;clear d K r1 r2
 repeat refine txA ?_
 refine az rfl rfl rfA (fun K d=> ?_);go_wp2_with fail;refine aq ?_;go_upto_region 1 with fail;obtain ⟨Y,J⟩:=At w.heap.size;rw [<-J];refine ag (fun W=>Blk W Y #[.int .i64 (A:Int)] 3/\Below w.heap.size w W) ⟨by rw [J];exact (Blk.new w #[.int .i64 (A:Int)] 3).drew,cL⟩ ?_;rintro W1 ⟨T,U⟩;have f:¬fS q Y:=(by rw [J];exact O.fresh);have B2:=Hd J;clear J;have F:=Dd W1 B q Y 0 A (O.old U) (Vd hB U.size) (T.rule 0) f oA;clear D;go_wp2_with fail;refine F.mono ?_;clear F;rintro e w2 ⟨rfl,q2,A0,L⟩;have A1:=L.pre U;have j:=(L.blk T f).1;have cn:=j.rule;have G:=L.at'.blk.rule;unfold iZ at G;rw [L.c] at G;have m:zY w B q l A (.int .i64 0) w2:=⟨0,q2,by rw [E.out];omega,rfl,Hd (by rw [A0.out,E.out];simp),A1⟩;go_wp2_with fail;go_loopg [50] A (zY w B q l)
 case atStart=>exact m
 case round=>
  clear m cn G j T;obtain ⟨k,q',hk,rfl,V,C⟩:=hrel;rw [E.out] at hk;by_cases A6:k<A
  .have t0:decide ((k:Int)<(A:Int))=true:=soA;have y:k<l.length:=(by rw [E.out];exact A6);have A7:=av.elem (g:=bi) (sz:=1) (fun _=>rfl) (by first|exact S.1|(have:=S.1;rw [vY];exact this)) oA k y;obtain ⟨b,o,rfl,A8,D⟩:=A7;have hf:=A4 (List.ne_nil_of_length_pos oA) _ rfl;have HT:=Hd (Vj y);have A9:=Hd (show ∀k,((l.take k).flatMap be8).length<=8*A from fun k=>by
    rw [jk (fun x=>show (be8 x).length=8 by simp [an]),ltA,E.out];exact Nat.mul_le_mul_left _ (Nat.min_le_right _ _))
   generalize l[k]=x at D HT;have B3:=C.cell hx hfx;have BY:mD wr b (o+k) (bi x):=C.cells (by first|exact D|simpa [mD] using D) hf;have G:=C.at'.blk.rule;unfold iZ at G;rw [C.c] at G;have B4:q'.bs.length+108<1000000000000:=by
    have:=A9.out k;rw [V.out,laA,laA,an];omega
   have F:=Dd wr B q' b (o+k) x C.at' (Vd hB C.turn.size) (BY 0 (by show 0<1;omega)) (C.off A8 hf) oA;rw [C.c] at F;clear D;go_wp2_with fail;refine F.mono ?_;clear F;rintro e w3 ⟨rfl,q3,A2,B0⟩;have X:=Hd (show q3.bs=q.bs++be8 l.length++(l.take (k+1)).flatMap be8 by rw [A2.out,V.out,HT.out,Wo];simp);have A3:=C.trans B0;go_wp2_with fail;go_roundg (gk-1)
   case measure=>omega
   case rel=>exact ⟨k+1,q3,by rw [E.out];omega,gnA,X,A3⟩
  .have t0:decide ((k:Int)<(A:Int))=false:=soA;have X:=Hd (show q'.bs=q.bs++(be8 l.length++l.flatMap be8) by rw [V.out,VZ (by rw [E.out];omega),Vf]);go_wp2_with fail;refine WR (v:= .tuple #[]) (WZ rfl _ _ _) rfl ⟨rfl,q',X,C⟩
def wR (w:As) (B:Nat) (q:WC) (l:List ci) (f:Nat) (v50:Value) (wr:As):Prop:=
 ∃(k:Nat) (q':WC),k+f=l.length/\v50= .int .i64 (k:Int)/\Hid (q'.bs=q.bs++be8 l.length++(l.take k).flatMap km)/\fR B w q wr q'
theorem xS (w:As) (B:Nat) (q:WC) (I N:Nat) (s:Sl) (l:List ci) (O:WAt w B q) (hB:B<=w.heap.size) (hx:w.cell? ⟨I,N,none⟩=some (.slice s.a s.n s.c)) (S:jW w s l) (hfx:¬fS q I) (A4:l≠ []->∀ad,s.a=some ad->¬fS q ad.block) (hz:q.bs.length+16*s.n+200<1000000000000):
  Calls prog 149 #[.pointer (some ⟨q.c,0,none⟩),.pointer (some ⟨I,N,none⟩),.int .i64 16,.func (.func 150) #[.pointer (some ⟨q.c,0,none⟩)] #[]] w fun e w'=>e= .returned (.tuple #[])/\∃q',Hid (q'.bs=q.bs++(be8 l.length++l.flatMap km))/\fR B w q w' q':=by
 have A5:=Vx w _ hx;have D:=O.blk.rule;unfold iZ at D;have E:=Hd S.2.1;have B1:=S.2.2.2.2.1;obtain ⟨sa,A,sc⟩:=s;dsimp only at*;go_enter func149,ntmps149;go_wp2_with fail;have r1:∀W,Old w.drew W->W.cell? ⟨q.c,1,none⟩=some (.int .i64 0):=fun W Z=>(by rw [Z.cell (p:=⟨q.c,1,none⟩) O.blk.lt];exact D 1);have r2:∀W,Old w.drew W->W.cell? ⟨I,N,none⟩=some (.slice sa A sc):=fun W Z=>(by rw [Z.cell (p:=⟨I,N,none⟩) A5];exact hx);refine ah true Old Old.refl Old.trans (.step 0 (.step 1 (.step 2 (.step 3 (.step 4 (.step 5 (.step 6 (.step 7 (.step 8 (.step 9 (.step 10 .done))))))))))) krA krA cdA ?_
 repeat refine txA ?_
 refine am rfl rfl rfA (fun K d=> ?_);go_wp2_with fail;refine d _ _ ((VW _ _).alloc (VU _) _) ?_;clear d K r1 r2
 repeat refine txA ?_
 refine az rfl rfl rfA (fun K d=> ?_);go_wp2_with fail;refine aq ?_;go_upto_region 1 with fail;obtain ⟨Y,J⟩:=At w.heap.size;rw [<-J];refine ag (fun W=>Blk W Y #[.int .i64 (A:Int)] 3/\Below w.heap.size w W) ⟨by rw [J];exact (Blk.new w #[.int .i64 (A:Int)] 3).drew,cL⟩ ?_;rintro W1 ⟨T,U⟩;have f:¬fS q Y:=(by rw [J];exact O.fresh);have B2:=Hd J;clear J;have F:=Dd W1 B q Y 0 A (O.old U) (Vd hB U.size) (T.rule 0) f oA;clear D;go_wp2_with fail;refine F.mono ?_;clear F;rintro e w2 ⟨rfl,q2,A0,L⟩;have A1:=L.pre U;have j:=(L.blk T f).1;have cn:=j.rule;have G:=L.at'.blk.rule;unfold iZ at G;rw [L.c] at G;have m:wR w B q l A (.int .i64 0) w2:=⟨0,q2,by rw [E.out];omega,rfl,Hd (by rw [A0.out,E.out];simp),A1⟩;go_wp2_with fail;go_loopg [50] A (wR w B q l)
 case atStart=>exact m
 case round=>
  clear m cn G j T;obtain ⟨k,q',hk,rfl,V,C⟩:=hrel;rw [E.out] at hk;by_cases A6:k<A
  .have t0:decide ((k:Int)<(A:Int))=true:=soA;have y:k<l.length:=(by rw [E.out];exact A6);have A7:=av.elem (g:=ci.cells) (sz:=2) (fun _=>rfl) (by first|exact S.1|(have:=S.1;rw [vY];exact this)) oA k y;obtain ⟨b,o,rfl,A8,D⟩:=A7;have hf:=A4 (List.ne_nil_of_length_pos oA) _ rfl;have HT:=Hd (Vj y);have A9:=Hd (show ∀k,((l.take k).flatMap km).length<=16*A from fun k=>by
    rw [jk (fun x=>show (km x).length=16 by simp [km,an]),ltA,E.out];exact Nat.mul_le_mul_left _ (Nat.min_le_right _ _))
   generalize l[k]=x at D HT;have B3:=C.cell hx hfx;have BY:mD wr b (o+k*2) (ci.cells x):=C.cells (by first|exact D|simpa [mD] using D) hf;have G:=C.at'.blk.rule;unfold iZ at G;rw [C.c] at G;have B4:q'.bs.length+108<1000000000000:=by
    have:=A9.out k;rw [V.out,laA,laA,an];omega
   have F:=Mn wr B q' b (o+k*2) x C.at' (Vd hB C.turn.size) BY (C.off A8 hf) oA;rw [C.c] at F;clear D;go_wp2_with fail;refine F.mono ?_;clear F;rintro e w3 ⟨rfl,q3,A2,B0⟩;have X:=Hd (show q3.bs=q.bs++be8 l.length++(l.take (k+1)).flatMap km by rw [A2.out,V.out,HT.out,Wo];simp);have A3:=C.trans B0;go_wp2_with fail;go_roundg (gk-1)
   case measure=>omega
   case rel=>exact ⟨k+1,q3,by rw [E.out];omega,gnA,X,A3⟩
  .have t0:decide ((k:Int)<(A:Int))=false:=soA;have X:=Hd (show q'.bs=q.bs++(be8 l.length++l.flatMap km) by rw [V.out,VZ (by rw [E.out];omega),Vf]);go_wp2_with fail;refine WR (v:= .tuple #[]) (WZ rfl _ _ _) rfl ⟨rfl,q',X,C⟩
theorem fG (l:List Int):(iy l).length=8+8*l.length:=by
 unfold iy;rw [laA,an,jk an]
theorem uC (l:List ci):(Ic l).length=8+16*l.length:=by
 unfold Ic;rw [laA,an,jk (n:=16) (fun x=>by simp [km,an])]
theorem xj (b:Bool):(tr1 b).length=1:=rfl
def InB (B:Nat) (a:Lt) (n:Nat):Prop:=0<n->∀ad,a=some ad->ad.block<B
theorem InB.mono {B B':Nat} {a:Lt} {n:Nat} (h:InB B a n) (A:B<=B'):InB B' a n:=fun C D E=>VP (h C D E) A
theorem av.low {w w':As} {B:Nat} {a:Lt} {vs:AT} {n:Nat} (h:av w a vs) (D:InB B a n) (E:n=0->vs=[]) (F:Below B w w'):av w' a vs:=fun i A=>by
 obtain ⟨b,o,e,G⟩:=h i A;have I:0<n:=by
  rcases ZK n with C|C
  .rw [E C] at A;simp at A
  .exact C
 exact ⟨b,o,e,(VE (a:=⟨b,o+i,none⟩) (F.block b (D I _ e))).trans G⟩
theorem mC.low {w w':As} {B:Nat} {s:Sl} {l:List Int} (h:mC w s l) (A:InB B s.a s.n) (C:Below B w w'):mC w' s l:=
 ⟨av.low h.1 A (fun D=>by have:=h.2.1;rw [D] at this;rw [VX this];rfl) C,h.2⟩
theorem jW.low {w w':As} {B:Nat} {s:Sl} {l:List ci} (h:jW w s l) (A:InB B s.a s.n) (C:Below B w w'):jW w' s l:=
 ⟨av.low h.1 A (fun D=>by have:=h.2.1;rw [D] at this;rw [VX this];rfl) C,h.2⟩
theorem mC.inB {w:As} {s:Sl} {l:List Int} (h:mC w s l):InB w.heap.size s.a s.n:=fun D E A=>by
 obtain ⟨b,o,e,C⟩:=h.1 0 (by have:=h.2.1;simp;omega);rw [A] at e;cases e;exact Vx w _ C
theorem jW.inB {w:As} {s:Sl} {l:List ci} (h:jW w s l):InB w.heap.size s.a s.n:=fun D E A=>by
 have F:(l.flatMap ci.cells).length=2*l.length:=by
  have e:∀l:List ci,(l.flatMap ci.cells).length=2*l.length:=fun l=>by
   induction l with
   |nil=>rfl
   |cons x l ih=>rw [Vn,laA,ih,VC];show 2+_=_;omega
  exact e l
 obtain ⟨b,o,e,C⟩:=h.1 0 (by have:=h.2.1;omega);rw [A] at e;cases e;exact Vx w _ C
theorem InB.off {w:As} {B:Nat} {q:WC} (D:WAt w B q) {s:Sl} {n:Nat} (G:n=s.n) (h:InB B s.a s.n) {α:Type} {l:List α} (I:l.length=s.n):l≠ []->∀A,s.a=some A->¬fS q A.block:=fun C A E F=>by
 have J:=(D.lt F).1;have L:=h (by have:=XB.2 C;omega) A E;omega
structure fI (w:As) (B:Nat) (p:bF) (h:dy):Prop where
 at':fb w p h
 ids:InB B h.ids.a h.ids.n
 pairs:InB B h.pairs.a h.pairs.n
theorem fI.low {w w':As} {B:Nat} {p:bF} {h:dy} (a:fI w B p h) (A:Below B w w'):fI w' B p h:=
 ⟨⟨a.at'.op,a.at'.side,a.at'.place,a.at'.target,a.at'.ids.low a.ids A,a.at'.pairs.low a.pairs A⟩,a.ids,a.pairs⟩
theorem fI.of {w:As} {p:bF} {h:dy} (a:fb w p h):fI w w.heap.size p h:=⟨a,a.ids.inB,a.pairs.inB⟩
theorem fI.mono {w:As} {B B':Nat} {p:bF} {h:dy} (a:fI w B p h) (A:B<=B'):fI w B' p h:=⟨a.at',a.ids.mono A,a.pairs.mono A⟩
theorem GN (w:As) (B:Nat) (q:WC) (b:Nat) (p:bF) (h:dy) (U:WAt w B q) (J:B<=w.heap.size) (hx:Blk w b (aw p h).toArray 38) (G:fI w B p h) (hb:b<B) (hz:q.bs.length+2*(bZ p).length+2000<1000000000000):
  Calls prog 121 #[.pointer (some ⟨q.c,0,none⟩),.pointer (some ⟨b,0,none⟩)] w fun e w'=>e= .returned (.tuple #[])/\∃q',Hid (q'.bs=q.bs++bZ p)/\fR B w q w' q':=by
 have B3:∀(fn:Fn) (first cap:AS) (w:As),(Instr.makeFunc fn first cap).run prog w= .ok (.func fn first cap) w:=fun _ _ _ _=>rfl;have d:(bZ p).length=48+8*p.ids.length+16*p.pairs.length:=by
  simp only [bZ,laA,an,fG,uC];omega
 rw [d] at hz;clear d;have x0:w.cell? ⟨b,0,none⟩=some (.int .i8 p.op):=hx.rule 0;have x1:w.cell? ⟨b,1,none⟩=some (.int .i64 p.side):=hx.rule 1;have x2:w.cell? ⟨b,2,none⟩=some (.int .i64 p.place):=hx.rule 2;have x3:w.cell? ⟨b,3,none⟩=some (.int .i64 p.target):=hx.rule 3;have x4:w.cell? ⟨b,4,none⟩=some (.slice h.ids.a h.ids.n h.ids.c):=hx.rule 4;have x5:w.cell? ⟨b,5,none⟩=some (.slice h.pairs.a h.pairs.n h.pairs.c):=hx.rule 5;have z0:w.frozen? ⟨b,0,none⟩=false:=hx.free 0;have A4:=hx.lt;have O:∀{W:As} {Q:WC},WAt W B Q->¬fS Q b:=fun hQ F=>(by have:=(hQ.lt F).1;omega);have F:=O U;clear hx;have A5:=G.at'.ids.2.1;have A6:=G.at'.pairs.2.1;obtain ⟨op,S,N,target,X,Z⟩:=p;dsimp only at*;go_enter func121,ntmps121;have A:=Jd w B q b 0 op U J x0 z0 G.at'.op F oA;go_wp2_with fail;refine A.mono ?_;clear A;rintro e w1 ⟨rfl,o,f,C⟩;have A7:=C.c;have B2:=C.at'.blk.lt;go_upto_region 1 with fail;have y1:=C.cell x1 F;have y2:=C.cell x2 F;have y3:=C.cell x3 F;have Y:=O C.at';have V:=VP A4 C.turn.size;have A8:=Vd J C.turn.size;have g:=C.at';have B4:o.bs.length=q.bs.length+8:=(by rw [f.out,laA,an]);refine ah false (au (fun _=>False)) (au.refl _) (fun _ _ _ h1 h2=>au.trans h1 h2) (.step 0 (.step 1 (.step 2 (.step 3 (.step 4 (.step 5 (.step 6 (.step 7 (.step 8 (.step 9 (.step 10 (.step 11 .done)))))))))))) krA krA cdA ?_
 repeat refine txA ?_
 refine am rfl rfl rfA (fun K L=> ?_);go_wp2_with fail;refine L _ _ ⟨skA,fun _ h=>h.elim⟩ ?_;clear L K
 repeat refine txA ?_
 refine am rfl rfl rfA (fun K L=> ?_);go_wp2_with fail;have I:Below w1.heap.size w1 (w1.alloc (.cells #[.pointer (some ⟨b,1,none⟩),.pointer (some ⟨b,2,none⟩),.pointer (some ⟨b,3,none⟩)] 209)).drew:=cL;have A:=Ho _ B o w1.heap.size 3 [(b,1,S),(b,2,N),(b,3,target)] (g.old I) (Vd A8 I.size) (Blk.new w1 #[.pointer (some ⟨b,1,none⟩),.pointer (some ⟨b,2,none⟩),.pointer (some ⟨b,3,none⟩)] 209).drew g.fresh rfl (fun x hx=>by
  simp only [Vk,List.mem_nil_iff,Zg] at hx;rcases hx with rfl|rfl|rfl
  .exact ⟨by rw [I.cell (p:=⟨b,_,none⟩) V];exact y1,Y⟩
  .exact ⟨by rw [I.cell (p:=⟨b,_,none⟩) V];exact y2,Y⟩
  .exact ⟨by rw [I.cell (p:=⟨b,_,none⟩) V];exact y3,Y⟩) oA
 rw [A7] at A;refine A.mono ?_;clear A;rintro e w2 ⟨rfl,s,A0,T⟩;have A9:=T.turn.size;replace T:=T.pre I;go_wp2_with fail;refine L _ _ ⟨by simpa using A9,fun _ h=>h.elim⟩ ?_;clear L K;refine aq ?_;have D:=C.trans T;have j:=Hd (show s.bs=q.bs++(be8 op++be8 S++be8 N++be8 target) by rw [A0.out,f.out];simp);have A:=AQ w2 B s b 4 h.ids X D.at' (Vd J D.turn.size) (D.cell x4 F) (G.low (D.below U J)).at'.ids (O D.at') (InB.off D.at' rfl G.ids A5) (by rw [j.out];simp only [laA,an,fG,xj];omega);rw [D.c] at A;go_wp2_with fail;refine A.mono ?_;clear A;rintro e w3 ⟨rfl,y,A1,BY⟩;have m:=Hd (show y.bs=q.bs++(be8 op++be8 S++be8 N++be8 target++iy X) by rw [A1.out,j.out];simp [iy,encU,Ic]);have E:=D.trans BY;have A:=xS w3 B y b 5 h.pairs Z E.at' (Vd J E.turn.size) (E.cell x5 F) (G.low (E.below U J)).at'.pairs (O E.at') (InB.off E.at' rfl G.pairs A6) (by rw [m.out];simp only [laA,an,fG,xj];omega);rw [E.c] at A;go_wp2_with fail;refine A.mono ?_;clear A;rintro e w4 ⟨rfl,q4,A2,B0⟩;have B1:=Hd (show q4.bs=q.bs++(be8 op++be8 S++be8 N++be8 target++iy X++Ic Z) by rw [A2.out,m.out];simp [iy,encU,Ic]);have A3:=E.trans B0;go_wp2_with fail;refine WR (v:= .tuple #[]) (WZ rfl _ _ _) rfl ⟨rfl,q4,Hd ?_,A3⟩;rw [B1.out];simp [bZ]
end
section
open Go.ChangeShapes Go.WideShapes Go.ChangeAt Go.RowKit
structure ao where
 kind:Int
 game:Int
 table:Int
 fmt:bB
 n0:bB
 n1:bB
 d0:List Int
 d1:List Int
 dr:List Int
 act:bF
deriving DecidableEq
structure aY where
 d0:Sl
 d1:Sl
 dr:Sl
 act:dy
deriving Inhabited
def af (p:ao) (h:aY):AT:=[.int .i8 p.kind,.int .i64 p.game,.int .i64 p.table,.string p.fmt,.string p.n0,.string p.n1,.slice h.d0.a h.d0.n h.d0.c,.slice h.d1.a h.d1.n h.d1.c,.slice h.dr.a h.dr.n h.dr.c,.int .i8 p.act.op,.int .i64 p.act.side,.int .i64 p.act.place,.int .i64 p.act.target,.slice h.act.ids.a h.act.ids.n h.act.ids.c,.slice h.act.pairs.a h.act.pairs.n h.act.pairs.c]
def dG (p:ao) (h:aY):Value:= .agg #[.int .i8 p.kind,.int .i64 p.game,.int .i64 p.table,.string p.fmt,.string p.n0,.string p.n1,.slice h.d0.a h.d0.n h.d0.c,.slice h.d1.a h.d1.n h.d1.c,.slice h.dr.a h.dr.n h.dr.c,.int .i8 p.act.op,.int .i64 p.act.side,.int .i64 p.act.place,.int .i64 p.act.target,.slice h.act.ids.a h.act.ids.n h.act.ids.c,.slice h.act.pairs.a h.act.pairs.n h.act.pairs.c]
theorem aD (p:ao) (h:aY):dG p h= .agg (af p h).toArray:=rfl
def rG (s:bB):Prop:=s.size<=140737488351232
structure dp (w:As) (p:ao) (h:aY):Prop where
 kind:wf8 p.kind
 game:ff p.game
 table:ff p.table
 fmt:rG p.fmt
 n0:rG p.n0
 n1:rG p.n1
 d0:mC w h.d0 p.d0
 d1:mC w h.d1 p.d1
 dr:mC w h.dr p.dr
 act:fb w p.act h.act
theorem dp.old {w w':As} {p:ao} {h:aY} (a:dp w p h) (A:Below w.heap.size w w'):dp w' p h:=
 ⟨a.kind,a.game,a.table,a.fmt,a.n0,a.n1,a.d0.old A,a.d1.old A,a.dr.old A,a.act.old A⟩
structure be (w:As) (B:Nat) (p:ao) (h:aY):Prop where
 kind:wf8 p.kind
 game:ff p.game
 table:ff p.table
 fmt:rG p.fmt
 n0:rG p.n0
 n1:rG p.n1
 d0:ax w B h.d0 p.d0
 d1:ax w B h.d1 p.d1
 dr:ax w B h.dr p.dr
 act:bu w B p.act h.act
section
variable {w w':As} {B:Nat} {p:ao} {h:aY}
theorem be.at (a:be w B p h):dp w p h:=⟨a.kind,a.game,a.table,a.fmt,a.n0,a.n1,a.d0.at,a.d1.at,a.dr.at,a.act.at⟩
theorem be.old (a:be w B p h) (A:Below w.heap.size w w'):be w' B p h:=⟨a.kind,a.game,a.table,a.fmt,a.n0,a.n1,a.d0.old A,a.d1.old A,a.dr.old A,a.act.old A⟩
theorem be.lower (a:be w B p h) {B':Nat} (A:B'<=B):be w B' p h:=⟨a.kind,a.game,a.table,a.fmt,a.n0,a.n1,a.d0.lower A,a.d1.lower A,a.dr.lower A,a.act.lower A⟩
end
structure rq (w:As) (B:Nat) (p:ao) (h:aY):Prop where
 at':dp w p h
 d0:InB B h.d0.a h.d0.n
 d1:InB B h.d1.a h.d1.n
 dr:InB B h.dr.a h.dr.n
 ids:InB B h.act.ids.a h.act.ids.n
 pairs:InB B h.act.pairs.a h.act.pairs.n
theorem rq.low {w w':As} {B:Nat} {p:ao} {h:aY} (a:rq w B p h) (A:Below B w w'):rq w' B p h:=
 ⟨⟨a.at'.kind,a.at'.game,a.at'.table,a.at'.fmt,a.at'.n0,a.at'.n1,a.at'.d0.low a.d0 A,a.at'.d1.low a.d1 A,a.at'.dr.low a.dr A,⟨a.at'.act.op,a.at'.act.side,a.at'.act.place,a.at'.act.target,a.at'.act.ids.low a.ids A,a.at'.act.pairs.low a.pairs A⟩⟩,a.d0,a.d1,a.dr,a.ids,a.pairs⟩
theorem rq.of {w:As} {p:ao} {h:aY} (a:dp w p h):rq w w.heap.size p h:=⟨a,a.d0.inB,a.d1.inB,a.dr.inB,a.act.ids.inB,a.act.pairs.inB⟩
theorem Me:Tryz.prog.cellsOf 9=1:=by kernel_rfl
theorem PU:Tryz.prog.cellsOf 33=2:=by kernel_rfl
theorem MI:Tryz.prog.cellsOf 35=2:=by kernel_rfl
theorem Qw:Tryz.prog.cellsOf 38=6:=by kernel_rfl
theorem aZ:lY prog 40 15:=⟨⟨_,underlying40,rfl⟩,krA⟩
theorem Is:lY prog 38 6:=⟨⟨_,underlying38,rfl⟩,krA⟩
section
variable {H:Type} {enc:TypeId×Value->H} {P:Program} {w:As}
theorem mG.name {t:TypeId} {c:Value} (h:mG enc P w t [c]) (C:P.underlying t=some .string):∃s:bB,c= .string s/\rG s:=by
 obtain ⟨n,x,D,E⟩:=h;obtain ⟨s,A,hx,_⟩:=DataW.trod_string C D;simp at A;refine ⟨s,A,?_⟩;have:=E s.data.toList.length (by rw [hx];simp [DataW.weights]);rw [Xe] at this;exact this
end
section
variable {H:Type} {enc:TypeId×Value->H} {w:As}
theorem El {cs:AT} (F:cs.length=15) (A:mG enc prog w 40 cs):∃(p:ao) (h:aY),cs=af p h/\dp w p h:=by
 have f0:=A.field underlying40 0 dcA;have f1:=A.field underlying40 1 dcA;have f2:=A.field underlying40 2 dcA;have f3:=A.field underlying40 3 dcA;have f4:=A.field underlying40 4 dcA;have f5:=A.field underlying40 5 dcA;have f6:=A.field underlying40 6 dcA;have f7:=A.field underlying40 7 dcA
 match cs,F with
 | [c0,c1,c2,c3,c4,c5,c6,c7,c8,c9,c10,c11,c12,c13,c14],_=>
  simp [i8c,Oe,Ka,Me,PU,MI,Qw] at f0 f1 f2 f3 f4 f5 f6 f7;have C:=f4.elem underlying33 0 dcA;have D:=f4.elem underlying33 1 dcA;have E:=f5.elem underlying35 0 dcA;have k1:=f5.elem underlying35 1 dcA;simp [Me,Ka] at C D E k1;obtain ⟨n0,rfl,w0⟩:=f0.int underlying32;obtain ⟨n1,rfl,w1⟩:=f1.int underlying3;obtain ⟨G,rfl,I⟩:=f2.int underlying3;obtain ⟨J,rfl,w3⟩:=f3.name underlying9;obtain ⟨L,rfl,N⟩:=C.name underlying9;obtain ⟨O,rfl,S⟩:=D.name underlying9;obtain ⟨T,U,rfl,V⟩:=lH E;obtain ⟨W,X,rfl,Y⟩:=lH k1;obtain ⟨Z,b,rfl,c⟩:=lH f6;obtain ⟨p,h,e,d⟩:=yq rfl f7;unfold aw at e;simp only [Wy] at e;obtain ⟨rfl,rfl,rfl,rfl,rfl,rfl,-⟩:=e;exact ⟨⟨n0,n1,G,J,L,O,U,X,b,p⟩,⟨T,W,Z,h⟩,rfl,⟨w0,w1,I,w3,N,S,V,Y,c,d⟩⟩
end
end
section
open Go.RowKit Go.Maps
abbrev DU:=DataW Unit
def cK (kl:Lit) (x:Lit×DU):Bool:=x.1.sameKey kl
structure iV (w:As) (P:Program) (k:TypeId) (R:Value->Option (DU×List MemPlace)) (M:Nat) (l:List (Lit×DU)):Prop where
 ex:∃D,w.ownsMap P k R M l.length D/\(∀kl z,D.atKey kl z=((l.find? (cK kl)).map (·.2)).getD z)/\(∀kl,Maps.has D kl=l.any (cK kl))/\Maps.size D=l.length
 keys:∀x∈l,WideAt.IsKeyLit x.1
 nd:(l.map Prod.fst).Nodup
theorem cY {a b:Lit} (A:WideAt.IsKeyLit a):a.sameKey b=true↔a=b:=by
 refine ⟨Vg,?_⟩;rintro rfl;cases a<;>simp_all [Lit.sameKey,WideAt.IsKeyLit]
section
variable {w w':As} {P:Program} {k:TypeId} {R:Value->Option (DU×List MemPlace)} {M:Nat} {l:List (Lit×DU)}
theorem mT {n:Nat} {D:DU} (h:w.ownsMap P k R M n D):w.ownsMap P k R M (Maps.size D) D:=by
 obtain ⟨E,C,G,F,_,A⟩:=h;refine ⟨E,C,G,F,?_,A⟩;rw [A];simp [Maps.size,length_sorted]
theorem iV.made (w:As) (P:Program) (k:TypeId) (R:Value->Option (DU×List MemPlace)):iV (w.alloc (.map #[] 0)) P k R w.heap.size []:=
 ⟨⟨.map [],World.ownsMap_made w P k R,fun _ _=>rfl,fun _=>rfl,rfl⟩,skA,skA⟩
theorem iV.lt (h:iV w P k R M l):M<w.heap.size:=by
 obtain ⟨D,A,_⟩:=h.ex;exact A.lt
theorem iV.keep (h:iV w P k R M l) (C:w'.heap[M]? =w.heap[M]?):iV w' P k R M l:=by
 obtain ⟨D,⟨E,A,F,G⟩,I⟩:=h.ex;exact ⟨⟨D,⟨E,A,C.trans F,G⟩,I⟩,h.keys,h.nd⟩
theorem nb {kl:Lit} {d:DU} (A:WideAt.IsKeyLit kl):∀{l:List (Lit×DU)},(l.map Prod.fst).Nodup->(kl,d)∈l->l.find? (cK kl)=some (kl,d)
 | [],_,h=>by cases h
 |x::l,hn,h=>by
  simp only [WG,XR] at hn;rcases Vk.1 h with e|h'
  .subst e;rw [XK,show cK kl (kl,d)=true from (cY A).2 rfl]
  .have hne:cK kl x=false:=by
    rw [VY];intro e;have C:x.1=kl:=Vg e;exact hn.1 (C▸WY (f:=Prod.fst) h')
   rw [XK,hne];exact nb A hn.2 h'
theorem jR {kl:Lit}:∀{l:List (Lit×DU)},kl∉l.map Prod.fst->l.find? (cK kl)=none:=by
 intro l h;rw [XE];intro x hx e;exact h ((Vg e)▸WY (f:=Prod.fst) hx)
theorem mA {kl:Lit} (A:WideAt.IsKeyLit kl) {l:List (Lit×DU)}:l.any (cK kl)=true↔kl∈l.map Prod.fst:=by
 rw [Vv];constructor
 .rintro ⟨x,hx,e⟩;exact (Vg e)▸WY (f:=Prod.fst) hx
 .intro h;obtain ⟨x,hx,e⟩:=VH.1 h;exact ⟨x,hx,by unfold cK;rw [e];exact (cY A).2 rfl⟩
variable {t e:TypeId}
theorem iV.look (h:iV w P k R M l) (K:Keyed P k) (F:P.underlying t=some (.map k e)) {z:Value} (G:(zeroValue e).run P w= .ok z w) {I:DU} {J:List MemPlace} (E:R z=some (I,J))
  {C:Value} {kl:Lit} (A:keyOf P k C=some kl) {d:DU} (L:(kl,d)∈l):∃v ps,(Instr.lookup t (.map (some M)) C false).run P w= .ok v w/\R v=some (d,ps):=by
 obtain ⟨D,N,O,_,_⟩:=h.ex;obtain ⟨v,ps,S,T⟩:=N.lookup K F G E A;refine ⟨v,ps,S,?_⟩;rw [T,O,nb (K.key A) h.nd L];rfl
theorem iV.look_no (h:iV w P k R M l) (K:Keyed P k) (G:P.underlying t=some (.map k e)) {z:Value} (I:(zeroValue e).run P w= .ok z w) {C:DU} {J:List MemPlace} (F:R z=some (C,J))
  {A:Value} {kl:Lit} (E:keyOf P k A=some kl) (L:kl∉l.map Prod.fst):∃v ps,(Instr.lookup t (.map (some M)) A false).run P w= .ok v w/\R v=some (C,ps):=by
 obtain ⟨D,N,O,_,_⟩:=h.ex;obtain ⟨v,ps,S,T⟩:=N.lookup K G I F E;refine ⟨v,ps,S,?_⟩;rw [T,O,jR L];rfl
theorem iV.look_ok (h:iV w P k R M l) (K:Keyed P k) (G:P.underlying t=some (.map k e)) {z:Value} (I:(zeroValue e).run P w= .ok z w) {J:DU} {L:List MemPlace} (F:R z=some (J,L))
  {C:Value} {kl:Lit} (A:keyOf P k C=some kl) {d:DU} (E:(kl,d)∈l):∃v ps,(Instr.lookup t (.map (some M)) C true).run P w= .ok (.tuple #[v,.bool true]) w/\R v=some (d,ps):=by
 obtain ⟨D,N,O,S,_⟩:=h.ex;obtain ⟨v,ps,T,U⟩:=N.look_ok K G I F A;refine ⟨v,ps,?_,?_⟩
 .rw [T,S,(mA (K.key A)).2 (WY (f:=Prod.fst) E)]
 .rw [U,O,nb (K.key A) h.nd E];rfl
theorem iV.look_ok_no (h:iV w P k R M l) (K:Keyed P k) (I:P.underlying t=some (.map k e)) {z:Value} (J:(zeroValue e).run P w= .ok z w) {E:DU} {L:List MemPlace} (G:R z=some (E,L))
  {C:Value} {kl:Lit} (A:keyOf P k C=some kl) (F:kl∉l.map Prod.fst):∃v ps,(Instr.lookup t (.map (some M)) C true).run P w= .ok (.tuple #[v,.bool false]) w/\R v=some (E,ps):=by
 obtain ⟨D,N,O,S,_⟩:=h.ex;obtain ⟨v,ps,T,U⟩:=N.look_ok K I J G A;refine ⟨v,ps,?_,?_⟩
 .rw [T,S,show l.any (cK kl)=false from by
   rw [VY];intro e;exact F ((mA (K.key A)).1 e)]
 .rw [U,O,jR F];rfl
theorem iV.len (h:iV w P k R M l) (A:P.underlying t=some (.map k e)) (ty:TypeId):(Builtin.len_ #[t] ty #[.map (some M)]).run P w= .ok (.int .i64 (l.length:Int)) w:=by
 obtain ⟨D,C,_,_,E⟩:=h.ex;rw [C.len A ty,E]
theorem iV.perm {l':List (Lit×DU)} (h:iV w P k R M l) (A:l.Perm l'):iV w P k R M l':=by
 obtain ⟨D,I,J,L,N⟩:=h.ex;have E:(l'.map Prod.fst).Nodup:=(A.map _).nodup_iff.1 h.nd;refine ⟨⟨D,by rw [<-A.length_eq];exact I,fun kl z=> ?_,fun kl=> ?_,by rw [N,A.length_eq]⟩,fun x hx=>h.keys x (A.mem_iff.2 hx),E⟩
 .rw [J];congr 2;cases C:l.find? (cK kl) with
  |none=>
   symm;rw [XE] at C⊢;intro x hx;exact C x (A.mem_iff.2 hx)
  |some x=>
   have F:=List.mem_of_find?_eq_some C;have G:=List.find?_some C;have O:x.1=kl:=Vg G;obtain ⟨S,T⟩:=x;cases O;exact (nb (h.keys _ F) E (A.mem_iff.1 F)).symm
 .rw [L,WX,Vv,Vv];exact ⟨fun ⟨x,hx,e⟩=>⟨x,A.mem_iff.1 hx,e⟩,fun ⟨x,hx,e⟩=>⟨x,A.mem_iff.2 hx,e⟩⟩
theorem iV.add (h:iV w P k R M l) (K:Keyed P k) (U:P.underlying t=some (.map k e)) (V:l.length<maxLen) {J L:Value} {kl:Lit} {d:DU} {ps:List MemPlace} (I:keyOf P k J=some kl) (W:R L=some (d,ps)) (G:kl∉l.map Prod.fst):
  ∃w',(Instr.mapUpdate t (.map (some M)) J L).run P w= .ok () w'/\iV w' P k R M (l++ [(kl,d)])/\w.mapTurned w' M:=by
 obtain ⟨D,E,X,N,Y⟩:=h.ex;obtain ⟨w',Z,c,S⟩:=E.store K U V I W;have C:=K.key I;have T:Maps.has D kl=false:=by
  rw [N,VY];intro e;exact G ((mA C).1 e)
 refine ⟨w',Z,⟨⟨D.put kl d,by rw [laA];exact c,fun k' z=> ?_,fun k'=> ?_,?_⟩,fun x hx=> ?_,?_⟩,S⟩
 .rw [ZT];by_cases A:k'=kl
  .subst A;rw [Maps.atKey_put_same E.isMap C,jR G];simp [cK,(cY C).2 rfl]
  .rw [Maps.atKey_put_other A,X];have F:cK k' (kl,d)=false:=by
    rw [VY];intro e;exact A (Vg e).symm
   simp [F]
 .rw [List.any_append];by_cases A:k'=kl
  .subst A;rw [Maps.has_put_same E.isMap C];simp [cK,(cY C).2 rfl]
  .rw [Maps.has_put_other A,N];have F:cK k' (kl,d)=false:=by
    rw [VY];intro e;exact A (Vg e).symm
   simp [F]
 .obtain ⟨f,g,j,_⟩:=E.entries K;rw [Maps.size_put ⟨f,g,j⟩,T,Y];simp
 .rcases Ve.1 hx with hx|hx
  .exact h.keys x hx
  .rw [VS.1 hx];exact C
 .rw [VF,WG,XP];rw [XQ];exact ⟨h.nd,skA,by
   intro a m b O e;rw [VS] at O;subst O;exact G (e▸m)⟩
theorem iV.del (h:iV w P k R M l) (K:Keyed P k) (W:P.underlying t=some (.map k e)) {L:Value} {kl:Lit} (J:keyOf P k L=some kl) (ty:TypeId):
  ∃w',(Builtin.delete_ #[t,k] ty #[.map (some M),L]).run P w= .ok (.tuple #[]) w'/\iV w' P k R M (l.filter fun x=> !cK kl x)/\w.mapTurned w' M:=by
 obtain ⟨D,S,X,T,Y⟩:=h.ex;obtain ⟨w',Z,c,U⟩:=S.drop K W J ty;have F:=K.key J;have V:((l.filter fun x=> !cK kl x).map Prod.fst).Nodup:=h.nd.sublist (List.filter_sublist.map _);have N:Maps.size (D.del kl)=(l.filter fun x=> !cK kl x).length:=by
  obtain ⟨d,f,G,_⟩:=S.entries K;have g:=Maps.size_del (k:=kl) ⟨d,f,G⟩;rw [T,Y] at g;have e4:l.length=(l.filter (cK kl)).length+(l.filter fun x=> !cK kl x).length:=by
   have:=(List.filter_append_perm (cK kl) l).length_eq;rw [laA] at this;exact this.symm
  have e5:(l.filter (cK kl)).length=if l.any (cK kl)=true then 1 else 0:=by
   by_cases C:l.any (cK kl)=true
   .rw [Vz C];obtain ⟨x,hx,j⟩:=VH.1 ((mA F).1 C);have A0:(l.filter (cK kl)).length<=1:=by
     have O:((l.filter (cK kl)).map Prod.fst).Nodup:=h.nd.sublist (List.filter_sublist.map _);have E:∀y∈(l.filter (cK kl)).map Prod.fst,y=kl:=by
      intro y m;obtain ⟨z,n,rfl⟩:=VH.1 m;exact Vg (Vy.1 n).2
     match I:(l.filter (cK kl)).map Prod.fst with
     | []=>have:=WS List.length I;rw [lmA] at this;rw [this];simp
     | [a]=>have:=WS List.length I;rw [lmA] at this;rw [this];simp
     |a::b::r=>
      rw [I] at O E;have o:=E a skA;have s:=E b skA;simp [o,s] at O
    have A1:0<(l.filter (cK kl)).length:=Ym (Vy.2 ⟨hx,by unfold cK;rw [j];exact (cY F).2 rfl⟩);omega
   .rw [VV C];have:l.filter (cK kl)=[]:=by
     rw [Xo];intro x hx e;exact C (Vv.2 ⟨x,hx,e⟩)
    rw [this];rfl
  have e7:(if l.any (cK kl)=true then 1 else 0)=(if l.any (cK kl) then 1 else 0:Nat):=rfl;omega
 refine ⟨w',Z,⟨⟨D.del kl,by rw [<-N];exact mT c,fun k' z=> ?_,fun k'=> ?_,N⟩,fun x hx=>h.keys x (Vy.1 hx).1,V⟩,U⟩
 .by_cases hk':k'=kl
  .subst hk';rw [Maps.atKey_del_same,jR]
   .rfl
   .intro hm;obtain ⟨x,hx,e⟩:=VH.1 hm;have A:=(Vy.1 hx).2;simp only [cK,e,(cY F).2 rfl] at A;cases A
  .rw [Maps.atKey_del_other hk',X];congr 2;rw [Maps.find_filter_keep];intro x hx;rw [XN,VY];intro e;exact hk' ((Vg hx).symm.trans (Vg e))
 .by_cases hk':k'=kl
  .subst hk';rw [Maps.has_del_same];symm;rw [VY];intro e;obtain ⟨x,hx,G⟩:=Vv.1 e;have A:=(Vy.1 hx).2;rw [G] at A;cases A
  .rw [Maps.has_del_other hk',T,Maps.any_filter_keep];intro x hx;rw [XN,VY];intro e;exact hk' ((Vg hx).symm.trans (Vg e))
end
section
theorem lU {kl:Lit} (E:WideAt.IsKeyLit kl) {l:List (Lit×DU)} (G:(l.map Prod.fst).Nodup):l.length=(if l.any (cK kl)=true then 1 else 0)+(l.filter fun x=> !cK kl x).length:=by
 have U:l.length=(l.filter (cK kl)).length+(l.filter fun x=> !cK kl x).length:=by
  have:=(List.filter_append_perm (cK kl) l).length_eq;rw [laA] at this;exact this.symm
 have V:(l.filter (cK kl)).length=if l.any (cK kl)=true then 1 else 0:=by
  by_cases A:l.any (cK kl)=true
  .rw [Vz A];obtain ⟨x,hx,I⟩:=VH.1 ((mA E).1 A);have S:(l.filter (cK kl)).length<=1:=by
    have F:((l.filter (cK kl)).map Prod.fst).Nodup:=G.sublist (List.filter_sublist.map _);have C:∀y∈(l.filter (cK kl)).map Prod.fst,y=kl:=by
     intro y J;obtain ⟨z,L,rfl⟩:=VH.1 J;exact Vg (Vy.1 L).2
    match D:(l.filter (cK kl)).map Prod.fst with
    | []=>have:=WS List.length D;rw [lmA] at this;rw [this];simp
    | [a]=>have:=WS List.length D;rw [lmA] at this;rw [this];simp
    |a::b::r=>
     rw [D] at F C;have N:=C a skA;have O:=C b skA;simp [N,O] at F
   have T:0<(l.filter (cK kl)).length:=Ym (Vy.2 ⟨hx,by unfold cK;rw [I];exact (cY E).2 rfl⟩);omega
  .rw [VV A];have:l.filter (cK kl)=[]:=by
    rw [Xo];intro x hx e;exact A (Vv.2 ⟨x,hx,e⟩)
   rw [this];rfl
 omega
variable {w w':As} {P:Program} {k:TypeId} {R:Value->Option (DU×List MemPlace)} {M:Nat} {l:List (Lit×DU)} {t e:TypeId}
theorem iV.put (h:iV w P k R M l) (K:Keyed P k) (X:P.underlying t=some (.map k e)) (Y:l.length<maxLen) {O S:Value} {kl:Lit} {d:DU} {ps:List MemPlace} (L:keyOf P k O=some kl) (Z:R S=some (d,ps)):
  ∃w',(Instr.mapUpdate t (.map (some M)) O S).run P w= .ok () w'/\iV w' P k R M ((l.filter fun x=> !cK kl x)++ [(kl,d)])/\w.mapTurned w' M:=by
 obtain ⟨D,F,c,U,f⟩:=h.ex;obtain ⟨w',g,j,W⟩:=F.store K X Y L Z;have C:=K.key L;have N:=lU C h.nd;have T:Maps.size (D.put kl d)=((l.filter fun x=> !cK kl x)++ [(kl,d)]).length:=by
  obtain ⟨m,n,J,_⟩:=F.entries K;rw [Maps.size_put ⟨m,n,J⟩,U,f,laA];by_cases G:l.any (cK kl)=true
  .rw [Vz G] at N⊢;simp;omega
  .rw [VV G] at N⊢;simp;omega
 refine ⟨w',g,⟨⟨D.put kl d,by rw [<-T];exact mT j,fun k' z=> ?_,fun k'=> ?_,T⟩,fun x hx=> ?_,?_⟩,W⟩
 .rw [ZT];by_cases A:k'=kl
  .subst A;rw [Maps.atKey_put_same F.isMap C,jR]
   .simp [cK,(cY C).2 rfl]
   .intro hm;obtain ⟨x,hx,e⟩:=VH.1 hm;have E:=(Vy.1 hx).2;simp only [cK,e,(cY C).2 rfl] at E;cases E
  .rw [Maps.atKey_put_other A,c];have I:cK k' (kl,d)=false:=by
    rw [VY];intro e;exact A (Vg e).symm
   rw [Maps.find_filter_keep]
   .simp [I]
   .intro x hx;rw [XN,VY];intro e;exact A ((Vg hx).symm.trans (Vg e))
 .rw [List.any_append];by_cases A:k'=kl
  .subst A;rw [Maps.has_put_same F.isMap C];simp [cK,(cY C).2 rfl]
  .rw [Maps.has_put_other A,U];have I:cK k' (kl,d)=false:=by
    rw [VY];intro e;exact A (Vg e).symm
   rw [Maps.any_filter_keep]
   .simp [I]
   .intro x hx;rw [XN,VY];intro e;exact A ((Vg hx).symm.trans (Vg e))
 .rcases Ve.1 hx with hx|hx
  .exact h.keys x (Vy.1 hx).1
  .rw [VS.1 hx];exact C
 .rw [VF,WG,XP];rw [XQ];refine ⟨h.nd.sublist (List.filter_sublist.map _),skA,?_⟩;intro a G b V e;rw [VS] at V;subst V;obtain ⟨x,hx,J⟩:=VH.1 G;have E:=(Vy.1 hx).2;simp only [cK,J,e,(cY C).2 rfl] at E;cases E
end
structure wW (w:As) (P:Program) (k:TypeId) (R:Value->Option (DU×List MemPlace)) (M r:Nat) (l todo:List (Lit×DU)):Prop where
 map:iV w P k R M l
 ex:∃D left cnt,w.ranges P k R M r l.length D left cnt/\(∀kl z,D.atKey kl z=((l.find? (cK kl)).map (·.2)).getD z)/\(∀kl,left kl=todo.any (cK kl))/\cnt=w.rangeLeft M r
 sub:∀x∈todo,x∈l
 nd:(todo.map Prod.fst).Nodup
section
variable {w w':As} {P:Program} {k:TypeId} {R:Value->Option (DU×List MemPlace)} {M r:Nat} {l todo:List (Lit×DU)} {t e:TypeId}
theorem wW.ne (h:wW w P k R M r l todo):r≠M:=by
 obtain ⟨D,left,C,A,_⟩:=h.ex;exact A.ne
theorem wW.lt (h:wW w P k R M r l todo):r<w.heap.size:=by
 obtain ⟨D,left,C,A,_⟩:=h.ex;exact A.lt
theorem xJ {n:Nat} {D:DU} {left:Lit->Bool} {A:Nat} (h:w.ranges P k R M r n D left A) (I:w'.heap[M]? =w.heap[M]?) (J:w'.heap[r]? =w.heap[r]?):w'.ranges P k R M r n D left A:=by
 obtain ⟨L,C,E,seen,N,O,F,S,T,G,rest⟩:=h;exact ⟨L,C,E,seen,N,I.trans O,F,S,T,J.trans G,rest⟩
theorem wW.keep (h:wW w P k R M r l todo) (A:w'.heap[M]? =w.heap[M]?) (F:w'.heap[r]? =w.heap[r]?):wW w' P k R M r l todo:=by
 obtain ⟨D,left,E,G,I,J,L⟩:=h.ex;have C:=xJ G A F;exact ⟨h.map.keep A,⟨D,left,E,C,I,J,C.left_eq.symm⟩,h.sub,h.nd⟩
theorem iV.range (h:iV w P k R M l) (K:Keyed P k) (F:P.underlying t=some (.map k e)):
  ∃w',(Instr.range t (.map (some M))).run P w= .ok (.pointer (some ⟨w.heap.size,0,none⟩)) w'/\wW w' P k R M w.heap.size l l/\w.grownBy w' none/\w'.heap.size=w.heap.size+1:=by
 obtain ⟨D,G,I,J,N⟩:=h.ex;obtain ⟨w',L,C,A,E⟩:=G.range K F;refine ⟨w',L,⟨h.keep (A.block M h.lt skA),⟨D,_,_,C,I,J,C.left_eq.symm⟩,fun x hx=>hx,h.nd⟩,A,E⟩
theorem wW.next (h:wW w P k R M r l todo) (K:Keyed P k) (ty:TypeId):
  (todo=[]/\(Instr.next (.pointer (some ⟨r,0,none⟩)) false ty).run P w= .ok (.tuple #[.bool false]) w)\/
  ∃C v kl d ps w',keyOf P k C=some kl/\(kl,d)∈todo/\R v=some (d,ps)/\(Instr.next (.pointer (some ⟨r,0,none⟩)) false ty).run P w= .ok (.tuple #[.bool true,C,v]) w'/\
   wW w' P k R M r l (todo.filter fun x=> !cK kl x)/\w'.rangeLeft M r<w.rangeLeft M r/\w.grownBy w' (some r)/\w'.heap.size=w.heap.size/\(Instr.entry (.pointer (some ⟨r,0,none⟩))).run P w'= .ok (.tuple #[C,v]) w':=by
 obtain ⟨D,left,A0,s,Y,O,h4⟩:=h.ex;rcases s.next K ty with ⟨_,hl,I⟩|⟨C,v,kl,y,w',b,V,W,hv,c,I,J,f,X,g,j⟩
 .refine .inl ⟨?_,I⟩;cases Z:todo with
  |nil=>rfl
  |cons x rest=>
   have hx:x∈todo:=(by rw [Z];simp);have:=hl x.1;rw [O] at this;have h5:todo.any (cK x.1)=true:=Vv.2 ⟨x,hx,(cY (h.map.keys x (h.sub x hx))).2 rfl⟩;rw [h5] at this;cases this
 .have hkl:=K.key V;rw [O] at W;obtain ⟨x,hx,ek⟩:=Vv.1 W;have m:x.1=kl:=Vg ek;obtain ⟨G,d⟩:=x;cases m;have hd:y.1=d:=by
   have A:=c (.lit (.bool true));rw [Y,nb hkl h.map.nd (h.sub _ hx)] at A;exact A.symm
  obtain ⟨y1,y2⟩:=y;cases hd;have n:r≠M:=h.ne;refine .inr ⟨C,v,G,y1,y2,w',V,hx,hv,I,⟨h.map.keep (X.block M h.map.lt (by simp [Vl n])),⟨D,_,b,J,Y,fun L=> ?_,J.left_eq.symm⟩,fun z E=>h.sub z (Vy.1 E).1,h.nd.sublist (List.filter_sublist.map _)⟩,?_,X,g,j⟩
  .rw [O];rw [WX,Vh,Vv,Vv];constructor
   .rintro ⟨⟨z,E,F⟩,S⟩;refine ⟨z,Vy.2 ⟨E,?_⟩,F⟩;rw [XN] at S⊢;rw [VY] at S⊢;intro A;have T:z.1=L:=Vg F;have U:z.1=G:=Vg A;apply S;rw [<-T,U];exact (cY hkl).2 rfl
   .rintro ⟨z,E,F⟩;obtain ⟨o,N⟩:=Vy.1 E;refine ⟨⟨z,o,F⟩,?_⟩;rw [XN] at N⊢;rw [VY] at N⊢;intro A;have T:z.1=L:=Vg F;have U:L=G:=Vg A;apply N;show z.1.sameKey G=true;rw [T,U];exact (cY hkl).2 rfl
  .rw [J.left_eq,<-h4];exact f
end
def Rp:Value->Option (DU×List MemPlace)
 | .pointer (some ⟨b,0,none⟩)=>some (.lit (.int .i64 b),[])
 | .pointer none=>some (.lit (.int .i64 (-1)),[])
 |_=>none
theorem NG (b:Nat):Rp (.pointer (some ⟨b,0,none⟩))=some (.lit (.int .i64 b),[]):=rfl
theorem Iw {v:Value} {b:Nat} {ps:List MemPlace} (h:Rp v=some (.lit (.int .i64 (b:Int)),ps)):v= .pointer (some ⟨b,0,none⟩):=by
 unfold Rp at h;split at h
 .simp at h;rename_i A;have C:A=b:=oA;rw [C]
 .simp at h
 .cases h
theorem NF {v:Value} {ps:List MemPlace} (h:Rp v=some (.lit (.int .i64 (-1)),ps)):v= .pointer none:=by
 unfold Rp at h;split at h
 .simp at h
 .rfl
 .cases h
end
end Go.Proofs.YtioigihakjlopaaGreat
