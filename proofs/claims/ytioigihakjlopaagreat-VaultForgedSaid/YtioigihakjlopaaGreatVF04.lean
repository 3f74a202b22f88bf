import Derived.Test.YtioigihakjlopaaGreatVF03
namespace Go.Proofs.YtioigihakjlopaaGreat
open Go.Proofs.Tryz
set_option linter.unusedVariables false
set_option linter.unusedSimpArgs false
set_option maxHeartbeats 16000000
set_option maxRecDepth 100000
section
open Go.RowKit
theorem eF:bu prog 22 5 1 1:=bu.mk (z:= .int .u8 0) underlying22 krA rfl oA
structure WC where
 c:Nat
 a:Option Addr
 cap:Nat
 bs:List UInt8
def fC (q:WC) (x:Nat):Prop:=x=q.c\/q.a.map (·.block)=some x
def iw (q:WC):Array Value:= #[.slice q.a q.bs.length q.cap,.int .i64 0,.bool false]
structure WAt (w:World) (B:Nat) (q:WC):Prop where
 ge:B<=q.c
 blk:Blk w q.c (iw q) 184
 row:Own w B 5 1 q.a q.bs.length q.cap (q.bs.map bv)
structure ft (B:Nat) (w:World) (q:WC) (w':World) (q':WC):Prop where
 turn:aJ (fC q) w w'
 at':WAt w' B q'
 foot':∀x,fC q' x->fC q x\/w.heap.size<=x
 c:q'.c=q.c
section
variable {w w' w'':World} {B:Nat} {q q' q'':WC}
theorem WAt.keep (h:WAt w B q) (hk:∀x,fC q x->w'.heap[x]? =w.heap[x]?):WAt w' B q:=
 ⟨h.ge,(hk _ (.inl rfl)).trans h.blk,h.row.keepAt fun x hx=>hk _ (.inr (by rw [hx];rfl))⟩
theorem WAt.lt (h:WAt w B q) {x:Nat} (hx:fC q x):B<=x/\x<w.heap.size:=by
 rcases hx with rfl|hx
 .exact ⟨h.ge,h.blk.lt⟩
 .rw [WR] at hx;obtain ⟨ad,ha,rfl⟩:=hx;obtain ⟨h1,h2,_⟩:=h.row.block_lt ha;exact ⟨h1,h2⟩
theorem WAt.old (h:WAt w B q) (hb:Below w.heap.size w w'):WAt w' B q:=h.keep fun x hx=>hb.block x (h.lt hx).2
theorem ft.refl (h:WAt w B q):ft B w q w q:=⟨aJ.refl _ _,h,fun _ hx=> .inl hx,rfl⟩
theorem ft.trans (h:ft B w q w' q') (h':ft B w' q' w'' q''):ft B w q w'' q'':=
 ⟨h.turn.trans h'.turn h.foot',h'.at',fun x hx=>by
  rcases h'.foot' x hx with h1|h1
  .exact h.foot' x h1
  .exact .inr (At h.turn.size h1),h'.c.trans h.c⟩
theorem ft.pre {w0:World} (h:ft B w q w' q') (hb:Below w0.heap.size w0 w):ft B w0 q w' q':=
 ⟨(aJ.of_below (F:=fC q) hb).trans h.turn fun _ hx=> .inl hx,h.at',fun x hx=>by
  rcases h.foot' x hx with h1|h1
  .exact .inl h1
  .exact .inr (At hb.size h1),h.c⟩
theorem ft.below (h:ft B w q w' q') (hq:WAt w B q) (hB:B<=w.heap.size):Below B w w':=h.turn.below (fun _ hx=>(hq.lt hx).1) hB
theorem ft.blk (h:ft B w q w' q') {b:Nat} {cs:Array Value} {t:TypeId} (hb:Blk w b cs t) (hf:¬fC q b):Blk w' b cs t/\¬fC q' b:=
 ⟨(h.turn.block b hb.lt hf).trans hb,fun hx=>by
  rcases h.foot' b hx with h1|h1
  .exact hf h1
  .have:=hb.lt;omega⟩
end
theorem sA {a:Option Addr} {c x:Nat} (h:bE a c=some x):a.map (·.block)=some x:=by
 unfold bE at h;split at h
 .cases h
 .exact h
theorem Eg {a:Option Addr} {c:Nat} (h:0<c):bE a c=a.map (·.block):=by
 unfold bE;rw [if_neg oA]
theorem LQ (w:World) (B:Nat) (q:WC) (yb:Nat) (y:UInt8) (hq:WAt w B q) (hB:B<=w.heap.size) (hy:Blk w yb #[bv y] 5) (hf:¬fC q yb) (hz:q.bs.length<1000000000000):
  Calls prog 179 #[.pointer (some ⟨q.c,0,none⟩),.pointer (some ⟨yb,0,none⟩)] w fun e w'=>e= .returned (.tuple #[])/\∃q',Hid (q'.bs=q.bs++ [y])/\ft B w q w' q':=by
 have hc:=hq.blk.rule;unfold iw at hc;have hcl:=hq.blk.lt;have hyl:=hy.lt;go_enter func179,ntmps179;go_wp2_with fail;have r1:∀W,aq (fun x=>x=q.c\/x=yb) w.drew W->W.cell? ⟨q.c,0,none⟩=some (.slice q.a q.bs.length q.cap):=fun W hW=>(show Blk W q.c (iw q) 184 from (hW.2 _ (.inl rfl)).trans hq.blk).rule 0;have r2:∀W,aq (fun x=>x=q.c\/x=yb) w.drew W->W.cell? ⟨yb,0,none⟩=some (.int .u8 (U8 y)):=fun W hW=>(show Blk W yb #[bv y] 5 from (hW.2 _ (.inr rfl)).trans hy).rule 0;refine aj true (aq (fun x=>x=q.c\/x=yb)) (aq.refl _) (fun _ _ _ h1 h2=>aq.trans h1 h2) (.step 0 (.step 1 (.step 2 (.step 3 (.step 4 (.step 5 (.step 6 (.step 7 (.step 8 (.step 9 (.step 10 (.step 11 (.step 12 .done))))))))))))) krA krA cdA ?_
 repeat (first|refine tsA ?_|refine tqA ?_)
 have hl1:=hq.row.drew.alloc (.cells #[.int .u8 (U8 y)] 5);refine an rfl rfl rfA (fun K hK=> ?_);go_wp2_with fail;refine hK _ _ (aq.below ((AT _ _).alloc (Lt _) _) (fun x hx=>by rcases hx with rfl|rfl<;>assumption)) ?_
 clear hK K;refine an rfl rfl rfA (fun K hK=> ?_);refine ke (.tmp 13) (.tmp 17) 22 rfl eF rfl hl1 rfl (aw.new' _ _ _ _ skA) rfA oA (by exact dg _ rfl) mxA oA soA ?_;intro a2 c2 w2 hown2 hg2 hfr2;have hk2:aq (fun x=>x=q.c\/x=yb) (w.drew.alloc (.cells #[.int .u8 (U8 y)] 5)) w2:=⟨hg2.size,fun x hx=>hg2.block x (by rcases hx with rfl|rfl<;>simp<;>omega) (fun e=>by
  have e2:q.a.map (·.block)=some x:=sA e.symm;rcases hx with rfl|rfl
  .obtain ⟨ad,ha,hb⟩:=WR.1 e2;obtain ⟨_,_,cur,hcur⟩:=hq.row.block_lt ha;exact Blk.ne hcur hq.blk dcA hb
  .exact hf (.inr e2))⟩
 have hb2:Blk w2 q.c (iw q) 184:=(hk2.2 _ (.inl rfl)).trans (hq.blk.drew.alloc _);refine hK _ _ hk2 ?_;clear hK K r1 r2;have c2':=hb2.rule;have f2:=hb2.free;unfold iw at c2'
 repeat (first|refine tsA ?_|refine tqA ?_)
 refine az rfl rfl rfA (fun K hK=> ?_);go_wp2_with fail;refine ap ?_;go_wp2_with fail;refine bodyPost_ret (v:= .tuple #[]) (Wx rfl _ _ _) rfl ⟨rfl,⟨q.c,a2,c2,q.bs++ [y]⟩,Hd rfl,⟨?_,⟨hq.ge,?_,?_⟩,?_,rfl⟩⟩
 .exact (((((aJ.refl (fC q) w).drew).alloc _).trans (aJ.of_grown (F:=fC q) hg2 fun k hk=> .inr (sA hk)) fun _ h=> .inl h)).setCell (.inl (.inl rfl)) _
 .have:=hb2.set 0 (.slice a2 (q.bs.length+1) c2);unfold iw at this⊢;simpa using this
 .have:=hown2.setCell_apart hb2 dcA 0 (.slice a2 (q.bs.length+1) c2);simpa [bv] using this
 .rintro x (hx|hx)
  .exact .inl (.inl hx)
  .rw [<-Eg (c:=c2) (by have:=hown2.le;omega)] at hx;rcases hfr2 with h1|⟨b,h1,h2⟩
   .rw [h1] at hx;exact .inl (.inr (sA hx))
   .rw [h1] at hx;cases hx;refine .inr ?_;simp at h2;omega
def NumW (w:World) (B:Nat) (q:WC) (v:Int) (f:Nat) (v4 v5:Value) (wr:World):Prop:=
 ∃(k:Nat) (z:Int) (q':WC),k+f=8/\v5= .int .i64 (56-8*(k:Int))/\v4= .int .u64 z/\Hid (q'.bs=q.bs++(be8 v).take k)/\ft B w q wr q'
theorem BP (w:World) (B:Nat) (q:WC) (xb xo:Nat) (v:Int) (hq:WAt w B q) (hB:B<=w.heap.size) (hx:w.cell? ⟨xb,xo,none⟩=some (.int .i64 v)) (hf:¬fC q xb) (hz:q.bs.length+8<1000000000000):
  Calls prog 148 #[.pointer (some ⟨q.c,0,none⟩),.pointer (some ⟨xb,xo,none⟩)] w fun e w'=>e= .returned (.tuple #[])/\∃q',Hid (q'.bs=q.bs++be8 v)/\ft B w q w' q':=by
 have hxl:=VV w _ hx;go_enter func148,ntmps148;go_wp2_with fail;go_loopg [4,5] 8 (NumW w B q v)
 case atStart=>exact ⟨0,0,q,rfl,rfl,rfl,Hd skA,ft.refl hq⟩
 case round=>
  obtain ⟨k,z,q',hk,rfl,rfl,hbs,hs⟩:=hrel;have hxr:wr.cell? ⟨xb,xo,none⟩=some (.int .i64 v):=(VJ (a:=⟨xb,xo,none⟩) (hs.turn.block xb hxl hf)).trans hx;by_cases hlt:k<8
  .have t0:decide ((0:Int)<=56-8*(k:Int))=true:=soA;have v3:(0:Int)<=56-8*(k:Int):=oA;have v4:(56-8*(k:Int)).toNat=56-8*k:=oA;have v5:IntKind.i64.wrap (56-8*(k:Int)-8)=56-8*((k+1:Nat):Int):=(by rw [VZ];omega);go_upto_region 5 with fail;obtain ⟨y,hyd⟩:∃y:UInt8,y=⟨((BitVec.ofInt 64 v)>>>(56-8*k)).setWidth 8⟩:=⟨_,rfl⟩;have vb:IntKind.u64.wrap v/2^(56-8*k)%256=U8 y:=(by rw [hyd];exact yI v _);rw [vb];have HY:=Hd hyd;clear hyd vb v4;have hb1:Below wr.heap.size wr (wr.alloc (.cells #[.int .u8 (U8 y)] 5)):=(AT _ _).alloc (Lt _) _;have hy1:Blk (wr.alloc (.cells #[.int .u8 (U8 y)] 5)) wr.heap.size #[bv y] 5:=Blk.new wr #[bv y] 5;have hyf:¬fC q' wr.heap.size:=fun h=>(by have:=(hs.at'.lt h).2;omega);have hl:q'.bs.length<1000000000000:=(by rw [hbs.out,laA,ltA,au];omega);have cb:=LQ _ B q' wr.heap.size y (hs.at'.old hb1) (by have:=hs.turn.size;simp;omega) hy1 hyf hl;rw [hs.c] at cb;go_wp2_with fail;refine cb.mono ?_;clear cb;rintro e w2 ⟨rfl,q2,hbs2,hs2⟩;have cy:=(hs2.blk hy1 hyf).1.rule;unfold bv at cy;have hs3:=hs.trans (hs2.pre hb1);have hbs3:q2.bs=q.bs++(be8 v).take (k+1):=(by rw [hbs2.out,hbs.out,FA v k hlt,VM,<-HY.out]);have HB3:=Hd hbs3;clear hbs3;go_wp2_with fail;go_roundg (gk-1)
   case measure=>omega
   case rel=>exact ⟨k+1,_,q2,oA,gnA,rfl,HB3,hs3⟩
  .have hk8:k=8:=oA;subst hk8;have cc:=hs.at'.blk.rule;unfold iw at cc;rw [hs.c] at cc;have hbs8:q'.bs=q.bs++be8 v:=(by rw [hbs.out,Vj (by rw [au];omega)]);have HB8:=Hd hbs8;clear hbs8;go_wp2_with fail;refine WF (v:= .tuple #[]) (Wx rfl _ _ _) rfl ⟨rfl,q',HB8,hs⟩
theorem ko {w:World} {b o:Nat} {v:Value} (h:w.cell? ⟨b,o,none⟩=some v):w.setCell ⟨b,o,none⟩ v=w:=by
 unfold World.cell? at h;have e:(w.setCell ⟨b,o,none⟩ v).heap=w.heap:=by
  apply Wr;intro i;by_cases hi:i=b
  .subst hi;simp only [World.setCell,Array.getElem?_modify,if_true];cases hh:w.heap[i]? with
   |none=>rfl
   |some ob=>
    rw [hh] at h;cases ob with
    |cells c t fr=>
     simp only [Xf,Option.isSome_none,Bool.false_eq_true,if_false] at h⊢;have:c.setIfInBounds o v=c:=by
      apply Wr;intro j;rw [Vl];split
      .rename_i e;subst e;split
       .exact h.symm
       .rename_i hj;rw [Vy oA]
      .rfl
     rw [this]
    |_=>simp at h
  .exact VU _ _ _ _ hi
 have:w.setCell ⟨b,o,none⟩ v={w with heap:=(w.setCell ⟨b,o,none⟩ v).heap}:=rfl;rw [this,e]
theorem ku {w w':World} {b o:Nat} (h:w'.heap[b]? =w.heap[b]?):w'.frozen? ⟨b,o,none⟩=w.frozen? ⟨b,o,none⟩:=by
 unfold World.frozen?;rw [h]
abbrev Pt:=Nat×Nat×Int
def ptV (x:Pt):Value:= .pointer (some ⟨x.1,x.2.1,none⟩)
def Pj (w:World) (B:Nat) (q:WC) (xs:List Pt) (f:Nat) (v8:Value) (wr:World):Prop:=
 ∃(k:Nat) (q':WC),k+f=xs.length/\v8= .int .i64 (k:Int)/\Hid (q'.bs=q.bs++(xs.take k).flatMap fun x=>be8 x.2.2)/\ft B w q wr q'
theorem EC (xs:List Pt):(xs.flatMap fun x=>be8 x.2.2).length=8*xs.length:=by
 induction xs with
 |nil=>rfl
 |cons x l ih=>rw [Vh,laA,ih,au,VT];omega
theorem Gf (w:World) (B:Nat) (q:WC) (g n:Nat) (xs:List Pt) (hq:WAt w B q) (hB:B<=w.heap.size) (hg:Blk w g (xs.map ptV).toArray 209) (hgf:¬fC q g) (hn:xs.length=n) (hx:∀x∈xs,w.cell? ⟨x.1,x.2.1,none⟩=some (.int .i64 x.2.2)/\¬fC q x.1) (hz:q.bs.length+8*n+8<1000000000000):
  Calls prog 146 #[.pointer (some ⟨q.c,0,none⟩),.slice (some ⟨g,0,none⟩) n n] w fun e w'=>e= .returned (.tuple #[])/\∃q',Hid (q'.bs=q.bs++xs.flatMap fun x=>be8 x.2.2)/\ft B w q w' q':=by
 have HN:=Hd hn;clear hn;go_enter func146,ntmps146;go_wp2_with fail;go_loopg [8] n (Pj w B q xs)
 case atStart=>exact ⟨0,q,by rw [HN.out];omega,rfl,Hd skA,ft.refl hq⟩
 case round=>
  obtain ⟨k,q',hk,rfl,hbs,hs⟩:=hrel;rw [HN.out] at hk;by_cases hlt:k<n
  .have t0:decide ((k:Int)<(n:Int))=true:=soA;have hkl:k<xs.length:=(by rw [HN.out];exact hlt);obtain ⟨hc,hf⟩:=hx xs[k] (VE hkl);have cg:wr.cell? ⟨g,k,none⟩=some (ptV xs[k]):=by
    rw [(hs.blk hg hgf).1.rule];simp [hkl]
   have HT:=Hd (VW hkl);generalize xs[k]=x at*;obtain ⟨xb,xo,v⟩:=x;unfold ptV at cg;dsimp only at hc hf cg HT;have hcr:wr.cell? ⟨xb,xo,none⟩=some (.int .i64 v):=(VJ (a:=⟨xb,xo,none⟩) (hs.turn.block xb (VV w _ hc) hf)).trans hc;have hfr:¬fC q' xb:=fun h=>by
    rcases hs.foot' xb h with h1|h1
    .exact hf h1
    .have:=VV w _ hc;simp at this;omega
   have hl:q'.bs.length+8<1000000000000:=by
    rw [hbs.out,laA,EC,ltA];have:min k xs.length<=n:=oA;omega
   have cb:=BP wr B q' xb xo v hs.at' (At hB hs.turn.size) hcr hfr hl;rw [hs.c] at cb;clear hx hc hf hcr;go_wp2_with fail;refine cb.mono ?_;clear cb;rintro e w2 ⟨rfl,q2,hbs2,hs2⟩;have HB3:=Hd (show q2.bs=q.bs++(xs.take (k+1)).flatMap fun x=>be8 x.2.2 by rw [hbs2.out,hbs.out,HT.out,Ww,VM];simp);have hs3:=hs.trans hs2;go_wp2_with fail;go_roundg (gk-1)
   case measure=>omega
   case rel=>exact ⟨k+1,q2,by rw [HN.out];omega,gnA,HB3,hs3⟩
  .have t0:decide ((k:Int)<(n:Int))=false:=soA;have HB3:=Hd (show q'.bs=q.bs++xs.flatMap fun x=>be8 x.2.2 by rw [hbs.out,Vj (by rw [HN.out];omega)]);go_wp2_with fail;refine WF (v:= .tuple #[]) (Wx rfl _ _ _) rfl ⟨rfl,q',HB3,hs⟩
theorem Hp (w:World) (B:Nat) (q:WC) (xb xo:Nat) (v:Int) (hq:WAt w B q) (hB:B<=w.heap.size) (hx:w.cell? ⟨xb,xo,none⟩=some (.int .i8 v)) (hfz:w.frozen? ⟨xb,xo,none⟩=false) (hv:wf8 v) (hf:¬fC q xb) (hz:q.bs.length+8<1000000000000):
  Calls prog 145 #[.pointer (some ⟨q.c,0,none⟩),.pointer (some ⟨xb,xo,none⟩)] w fun e w'=>e= .returned (.tuple #[])/\∃q',Hid (q'.bs=q.bs++be8 v)/\ft B w q w' q':=by
 have hxl:=VV w _ hx;have hc:=hq.blk.rule;unfold iw at hc;have hv1: -128<=v/\v<=127:=by
  simp only [wf8,Lit.wf,IntKind.min,IntKind.max,IntKind.signed,IntKind.bits] at hv;simp at hv;omega
 have d1:decide (v< -128)=false:=soA;have d2:decide (127<v)=false:=soA;have e1:IntKind.i64.wrap v=v:=(by rw [VZ];omega);have e2:IntKind.i8.wrap v=v:=(by simp only [IntKind.wrap,IntKind.bits,IntKind.signed];simp;omega);go_enter func145,ntmps145;go_wp2_with fail;have r1:∀W,Old w.drew W->W.cell? ⟨q.c,1,none⟩=some (.int .i64 0):=fun W hW=>(by rw [hW.cell (p:=⟨q.c,1,none⟩) hq.blk.lt];exact hc 1);have r2:∀W,Old w.drew W->W.cell? ⟨xb,xo,none⟩=some (.int .i8 v):=fun W hW=>(by rw [hW.cell (p:=⟨xb,xo,none⟩) hxl];exact hx);refine aj true Old Old.refl Old.trans (.step 0 (.step 1 (.step 2 (.step 3 (.step 4 (.step 5 (.step 6 (.step 7 (.step 8 (.step 9 (.step 10 .done))))))))))) krA krA cdA ?_
 repeat (first|refine tsA ?_|refine tqA ?_)
 refine an rfl rfl rfA (fun K hK=> ?_);go_wp2_with fail;refine hK _ _ ((AT _ _).alloc (Lt _) _) ?_;clear hK K r1 r2
 repeat (first|refine tsA ?_|refine tqA ?_)
 refine az rfl rfl rfA (fun K hK=> ?_);go_wp2_with fail;refine ap ?_;go_upto_region 1 with (fail);refine af (fun W=>Blk W w.heap.size #[.int .i64 v] 3/\Below w.heap.size w W) ⟨(Blk.new w #[.int .i64 v] 3).drew,cL⟩ ?_;rintro W1 ⟨hn1,hb1⟩;have hnf:¬fC q w.heap.size:=fun h=>(by have:=(hq.lt h).2;omega);have hnl:=hn1.lt;have cb:=BP W1 B q w.heap.size 0 v (hq.old hb1) (At hB hb1.size) (hn1.rule 0) hnf hz;have hx1:W1.cell? ⟨xb,xo,none⟩=some (.int .i8 v):=(by rw [hb1.cell (p:=⟨xb,xo,none⟩) hxl];exact hx);have hfz1:W1.frozen? ⟨xb,xo,none⟩=false:=(ku (hb1.block xb hxl)).trans hfz;have hw1:=hq.old hb1;clear hc;go_wp2_with fail;refine cb.mono ?_;clear cb;rintro e w2 ⟨rfl,q2,hbs2,hs2⟩;have cn:=(hs2.blk hn1 hnf).1.rule;have hx2:w2.cell? ⟨xb,xo,none⟩=some (.int .i8 v):=(VJ (a:=⟨xb,xo,none⟩) (hs2.turn.block xb (by have:=hb1.size;omega) hf)).trans hx1;have hfz2:w2.frozen? ⟨xb,xo,none⟩=false:=(ku (hs2.turn.block xb (by have:=hb1.size;omega) hf)).trans hfz1;have hself:=ko hx2;go_wp2_with fail;refine WF (v:= .tuple #[]) (Wx rfl _ _ _) rfl ⟨rfl,q2,hbs2,hs2.pre hb1⟩
theorem ft.cell {w w':World} {B:Nat} {q q':WC} (h:ft B w q w' q') {b o:Nat} {v:Value} (hc:w.cell? ⟨b,o,none⟩=some v) (hf:¬fC q b):w'.cell? ⟨b,o,none⟩=some v:=
 (VJ (a:=⟨b,o,none⟩) (h.turn.block b (VV w _ hc) hf)).trans hc
theorem ft.off {w w':World} {B:Nat} {q q':WC} (h:ft B w q w' q') {b:Nat} (hb:b<w.heap.size) (hf:¬fC q b):¬fC q' b:=fun hx=>by
 rcases h.foot' b hx with h1|h1
 .exact hf h1
 .omega
theorem WAt.fresh {w:World} {B:Nat} {q:WC} (h:WAt w B q):¬fC q w.heap.size:=fun hx=>by have:=(h.lt hx).2;omega
theorem kv {α:Type} {g:α->List UInt8} {n:Nat} (h:∀x,(g x).length=n):∀l:List α,(l.flatMap g).length=n*l.length
 | []=>rfl
 |x::l=>by rw [Vh,laA,h,kv h l,VT,Nat.mul_add,Vk,Nat.add_comm]
theorem uP (l:List Int):l.flatMap bi=l.map (Value.int .i64):=by
 induction l with
 |nil=>rfl
 |cons x l ih=>rw [Vh,ih];rfl
def lP (w:World) (b o:Nat) (l:List Value):Prop:=∀j (hj:j<l.length),w.cell? ⟨b,o+j,none⟩=some l[j]
theorem ft.cells {w w':World} {B:Nat} {q q':WC} (h:ft B w q w' q') {b o:Nat} {l:List Value} (hc:lP w b o l) (hf:¬fC q b):lP w' b o l:=fun j hj=>h.cell (hc j hj) hf
theorem KO (w:World) (B:Nat) (q:WC) (b o:Nat) (u:bK) (hq:WAt w B q) (hB:B<=w.heap.size) (hx:lP w b o u.cells) (hf:¬fC q b) (hz:q.bs.length+100<1000000000000):
  Calls prog 150 #[.pointer (some ⟨q.c,0,none⟩),.pointer (some ⟨b,o,none⟩)] w fun e w'=>e= .returned (.tuple #[])/\∃q',Hid (q'.bs=q.bs++lF u)/\ft B w q w' q':=by
 obtain ⟨i,c⟩:=u;have x0:w.cell? ⟨b,o,none⟩=some (.int .i64 i):=hx 0 (by show 0<2;omega);have x1:w.cell? ⟨b,o+1,none⟩=some (.int .i64 c):=hx 1 (by show 1<2;omega);have hbl:=VV w _ x0;clear hx;go_enter func150,ntmps150;go_wp2_with fail;refine aj false (aq (fun _=>False)) (aq.refl _) (fun _ _ _ h1 h2=>aq.trans h1 h2) (.step 0 (.step 1 (.step 2 (.step 3 (.step 4 (.step 5 (.step 6 (.step 7 (.step 8 .done))))))))) krA krA cdA ?_
 repeat (first|refine tsA ?_|refine tqA ?_)
 refine an rfl rfl rfA (fun K hK=> ?_);go_wp2_with fail;refine hK _ _ ⟨skA,fun _ h=>h.elim⟩ ?_;clear hK K
 repeat (first|refine tsA ?_|refine tqA ?_)
 refine an rfl rfl rfA (fun K hK=> ?_);go_wp2_with fail;have hb1:Below w.heap.size w (w.alloc (.cells #[.pointer (some ⟨b,o,none⟩),.pointer (some ⟨b,o+1,none⟩)] 209)).drew:=cL;have cb:=Gf _ B q w.heap.size 2 [(b,o,i),(b,o+1,c)] (hq.old hb1) (At hB hb1.size) (Blk.new w #[.pointer (some ⟨b,o,none⟩),.pointer (some ⟨b,o+1,none⟩)] 209).drew hq.fresh rfl (fun x hx=>by
  simp only [Ve,List.mem_nil_iff,or_false] at hx;rcases hx with rfl|rfl
  .exact ⟨by rw [hb1.cell (p:=⟨b,_,none⟩) hbl];exact x0,hf⟩
  .exact ⟨by rw [hb1.cell (p:=⟨b,_,none⟩) hbl];exact x1,hf⟩) oA
 refine cb.mono ?_;clear cb;rintro e w2 ⟨rfl,q2,hbs2,hs2⟩;have hz2:=hs2.turn.size;replace hs2:=hs2.pre hb1;go_wp2_with fail;refine hK _ _ ⟨by simpa using hz2,fun _ h=>h.elim⟩ ?_;clear hK K;refine ap ?_;go_wp2_with fail;refine WF (v:= .tuple #[]) (Wx rfl _ _ _) rfl ⟨rfl,q2,Hd ?_,hs2⟩;rw [hbs2.out];simp [lF]
def yM (w:World) (B:Nat) (q:WC) (l:List Int) (f:Nat) (v50:Value) (wr:World):Prop:=
 ∃(k:Nat) (q':WC),k+f=l.length/\v50= .int .i64 (k:Int)/\Hid (q'.bs=q.bs++be8 l.length++(l.take k).flatMap be8)/\ft B w q wr q'
theorem zM (w:World) (B:Nat) (q:WC) (xb xo:Nat) (s:Sl) (l:List Int) (hq:WAt w B q) (hB:B<=w.heap.size) (hx:w.cell? ⟨xb,xo,none⟩=some (.slice s.a s.n s.c)) (hl:mI w s l) (hfx:¬fC q xb) (hfl:l≠ []->∀ad,s.a=some ad->¬fC q ad.block) (hz:q.bs.length+8*s.n+200<1000000000000):
  Calls prog 147 #[.pointer (some ⟨q.c,0,none⟩),.pointer (some ⟨xb,xo,none⟩),.int .i64 8,.func (.func 148) #[.pointer (some ⟨q.c,0,none⟩)] #[]] w fun e w'=>e= .returned (.tuple #[])/\∃q',Hid (q'.bs=q.bs++(be8 l.length++l.flatMap be8))/\ft B w q w' q':=by
 have hxl:=VV w _ hx;have hc:=hq.blk.rule;unfold iw at hc;have HL:=Hd hl.2.1;have hnm:=hl.2.2.2.2.1;obtain ⟨sa,sn,sc⟩:=s;dsimp only at*;go_enter func147,ntmps147;go_wp2_with fail;have r1:∀W,Old w.drew W->W.cell? ⟨q.c,1,none⟩=some (.int .i64 0):=fun W hW=>(by rw [hW.cell (p:=⟨q.c,1,none⟩) hq.blk.lt];exact hc 1);have r2:∀W,Old w.drew W->W.cell? ⟨xb,xo,none⟩=some (.slice sa sn sc):=fun W hW=>(by rw [hW.cell (p:=⟨xb,xo,none⟩) hxl];exact hx);refine aj true Old Old.refl Old.trans (.step 0 (.step 1 (.step 2 (.step 3 (.step 4 (.step 5 (.step 6 (.step 7 (.step 8 (.step 9 (.step 10 .done))))))))))) krA krA cdA ?_
 repeat (first|refine tsA ?_|refine tqA ?_)
 refine an rfl rfl rfA (fun K hK=> ?_);go_wp2_with fail;refine hK _ _ ((AT _ _).alloc (Lt _) _) ?_;clear hK K r1 r2
 repeat (first|refine tsA ?_|refine tqA ?_)
 refine az rfl rfl rfA (fun K hK=> ?_);go_wp2_with fail;refine ap ?_;go_upto_region 1 with (fail);obtain ⟨Y,hY⟩:=Le w.heap.size;rw [<-hY];refine af (fun W=>Blk W Y #[.int .i64 (sn:Int)] 3/\Below w.heap.size w W) ⟨by rw [hY];exact (Blk.new w #[.int .i64 (sn:Int)] 3).drew,cL⟩ ?_;rintro W1 ⟨hn1,hb1⟩;have hnf:¬fC q Y:=(by rw [hY];exact hq.fresh);have HYW:=Hd hY;clear hY;have cb:=BP W1 B q Y 0 sn (hq.old hb1) (At hB hb1.size) (hn1.rule 0) hnf oA;clear hc;go_wp2_with fail;refine cb.mono ?_;clear cb;rintro e w2 ⟨rfl,q2,hbs2,hs2⟩;have hs02:=hs2.pre hb1;have hn2:=(hs2.blk hn1 hnf).1;have cn:=hn2.rule;have cq:=hs2.at'.blk.rule;unfold iw at cq;rw [hs2.c] at cq;have hst:yM w B q l sn (.int .i64 0) w2:=⟨0,q2,by rw [HL.out];omega,rfl,Hd (by rw [hbs2.out,HL.out];simp),hs02⟩;go_wp2_with fail;go_loopg [50] sn (yM w B q l)
 case atStart=>exact hst
 case round=>
  clear hst cn cq hn2 hn1;obtain ⟨k,q',hk,rfl,hbs,hs⟩:=hrel;rw [HL.out] at hk;by_cases hlt:k<sn
  .have t0:decide ((k:Int)<(sn:Int))=true:=soA;have hkl:k<l.length:=(by rw [HL.out];exact hlt);have hel:=aw.elem (g:=bi) (sz:=1) (fun _=>rfl) (by first|exact hl.1|(have:=hl.1;rw [uP];exact this)) oA k hkl;obtain ⟨b,o,rfl,hbl,hc⟩:=hel;have hf:=hfl (List.ne_nil_of_length_pos oA) _ rfl;have HT:=Hd (VW hkl);have HSZ:=Hd (show ∀k,((l.take k).flatMap be8).length<=8*sn from fun k=>by
    rw [kv (fun x=>show (be8 x).length=8 by simp [au]),ltA,HL.out];exact Nat.mul_le_mul_left _ (Nat.min_le_right _ _))
   generalize l[k]=x at hc HT;have cxr:=hs.cell hx hfx;have ccr:lP wr b (o+k) (bi x):=hs.cells (by first|exact hc|simpa [lP] using hc) hf;have cq:=hs.at'.blk.rule;unfold iw at cq;rw [hs.c] at cq;have hl2:q'.bs.length+108<1000000000000:=by
    have:=HSZ.out k;rw [hbs.out,laA,laA,au];omega
   have cb:=BP wr B q' b (o+k) x hs.at' (At hB hs.turn.size) (ccr 0 (by show 0<1;omega)) (hs.off hbl hf) oA;rw [hs.c] at cb;clear hc;go_wp2_with fail;refine cb.mono ?_;clear cb;rintro e w3 ⟨rfl,q3,hbs3,hs3⟩;have HB3:=Hd (show q3.bs=q.bs++be8 l.length++(l.take (k+1)).flatMap be8 by rw [hbs3.out,hbs.out,HT.out,Ww];simp);have hs03:=hs.trans hs3;go_wp2_with fail;go_roundg (gk-1)
   case measure=>omega
   case rel=>exact ⟨k+1,q3,by rw [HL.out];omega,gnA,HB3,hs03⟩
  .have t0:decide ((k:Int)<(sn:Int))=false:=soA;have HB3:=Hd (show q'.bs=q.bs++(be8 l.length++l.flatMap be8) by rw [hbs.out,Vj (by rw [HL.out];omega),VM]);go_wp2_with fail;refine WF (v:= .tuple #[]) (Wx rfl _ _ _) rfl ⟨rfl,q',HB3,hs⟩
def vq (w:World) (B:Nat) (q:WC) (l:List bK) (f:Nat) (v50:Value) (wr:World):Prop:=
 ∃(k:Nat) (q':WC),k+f=l.length/\v50= .int .i64 (k:Int)/\Hid (q'.bs=q.bs++be8 l.length++(l.take k).flatMap lF)/\ft B w q wr q'
theorem wF (w:World) (B:Nat) (q:WC) (xb xo:Nat) (s:Sl) (l:List bK) (hq:WAt w B q) (hB:B<=w.heap.size) (hx:w.cell? ⟨xb,xo,none⟩=some (.slice s.a s.n s.c)) (hl:ju w s l) (hfx:¬fC q xb) (hfl:l≠ []->∀ad,s.a=some ad->¬fC q ad.block) (hz:q.bs.length+16*s.n+200<1000000000000):
  Calls prog 149 #[.pointer (some ⟨q.c,0,none⟩),.pointer (some ⟨xb,xo,none⟩),.int .i64 16,.func (.func 150) #[.pointer (some ⟨q.c,0,none⟩)] #[]] w fun e w'=>e= .returned (.tuple #[])/\∃q',Hid (q'.bs=q.bs++(be8 l.length++l.flatMap lF))/\ft B w q w' q':=by
 have hxl:=VV w _ hx;have hc:=hq.blk.rule;unfold iw at hc;have HL:=Hd hl.2.1;have hnm:=hl.2.2.2.2.1;obtain ⟨sa,sn,sc⟩:=s;dsimp only at*;go_enter func149,ntmps149;go_wp2_with fail;have r1:∀W,Old w.drew W->W.cell? ⟨q.c,1,none⟩=some (.int .i64 0):=fun W hW=>(by rw [hW.cell (p:=⟨q.c,1,none⟩) hq.blk.lt];exact hc 1);have r2:∀W,Old w.drew W->W.cell? ⟨xb,xo,none⟩=some (.slice sa sn sc):=fun W hW=>(by rw [hW.cell (p:=⟨xb,xo,none⟩) hxl];exact hx);refine aj true Old Old.refl Old.trans (.step 0 (.step 1 (.step 2 (.step 3 (.step 4 (.step 5 (.step 6 (.step 7 (.step 8 (.step 9 (.step 10 .done))))))))))) krA krA cdA ?_
 repeat (first|refine tsA ?_|refine tqA ?_)
 refine an rfl rfl rfA (fun K hK=> ?_);go_wp2_with fail;refine hK _ _ ((AT _ _).alloc (Lt _) _) ?_;clear hK K r1 r2
 repeat (first|refine tsA ?_|refine tqA ?_)
 refine az rfl rfl rfA (fun K hK=> ?_);go_wp2_with fail;refine ap ?_;go_upto_region 1 with (fail);obtain ⟨Y,hY⟩:=Le w.heap.size;rw [<-hY];refine af (fun W=>Blk W Y #[.int .i64 (sn:Int)] 3/\Below w.heap.size w W) ⟨by rw [hY];exact (Blk.new w #[.int .i64 (sn:Int)] 3).drew,cL⟩ ?_;rintro W1 ⟨hn1,hb1⟩;have hnf:¬fC q Y:=(by rw [hY];exact hq.fresh);have HYW:=Hd hY;clear hY;have cb:=BP W1 B q Y 0 sn (hq.old hb1) (At hB hb1.size) (hn1.rule 0) hnf oA;clear hc;go_wp2_with fail;refine cb.mono ?_;clear cb;rintro e w2 ⟨rfl,q2,hbs2,hs2⟩;have hs02:=hs2.pre hb1;have hn2:=(hs2.blk hn1 hnf).1;have cn:=hn2.rule;have cq:=hs2.at'.blk.rule;unfold iw at cq;rw [hs2.c] at cq;have hst:vq w B q l sn (.int .i64 0) w2:=⟨0,q2,by rw [HL.out];omega,rfl,Hd (by rw [hbs2.out,HL.out];simp),hs02⟩;go_wp2_with fail;go_loopg [50] sn (vq w B q l)
 case atStart=>exact hst
 case round=>
  clear hst cn cq hn2 hn1;obtain ⟨k,q',hk,rfl,hbs,hs⟩:=hrel;rw [HL.out] at hk;by_cases hlt:k<sn
  .have t0:decide ((k:Int)<(sn:Int))=true:=soA;have hkl:k<l.length:=(by rw [HL.out];exact hlt);have hel:=aw.elem (g:=bK.cells) (sz:=2) (fun _=>rfl) (by first|exact hl.1|(have:=hl.1;rw [uP];exact this)) oA k hkl;obtain ⟨b,o,rfl,hbl,hc⟩:=hel;have hf:=hfl (List.ne_nil_of_length_pos oA) _ rfl;have HT:=Hd (VW hkl);have HSZ:=Hd (show ∀k,((l.take k).flatMap lF).length<=16*sn from fun k=>by
    rw [kv (fun x=>show (lF x).length=16 by simp [lF,au]),ltA,HL.out];exact Nat.mul_le_mul_left _ (Nat.min_le_right _ _))
   generalize l[k]=x at hc HT;have cxr:=hs.cell hx hfx;have ccr:lP wr b (o+k*2) (bK.cells x):=hs.cells (by first|exact hc|simpa [lP] using hc) hf;have cq:=hs.at'.blk.rule;unfold iw at cq;rw [hs.c] at cq;have hl2:q'.bs.length+108<1000000000000:=by
    have:=HSZ.out k;rw [hbs.out,laA,laA,au];omega
   have cb:=KO wr B q' b (o+k*2) x hs.at' (At hB hs.turn.size) ccr (hs.off hbl hf) oA;rw [hs.c] at cb;clear hc;go_wp2_with fail;refine cb.mono ?_;clear cb;rintro e w3 ⟨rfl,q3,hbs3,hs3⟩;have HB3:=Hd (show q3.bs=q.bs++be8 l.length++(l.take (k+1)).flatMap lF by rw [hbs3.out,hbs.out,HT.out,Ww];simp);have hs03:=hs.trans hs3;go_wp2_with fail;go_roundg (gk-1)
   case measure=>omega
   case rel=>exact ⟨k+1,q3,by rw [HL.out];omega,gnA,HB3,hs03⟩
  .have t0:decide ((k:Int)<(sn:Int))=false:=soA;have HB3:=Hd (show q'.bs=q.bs++(be8 l.length++l.flatMap lF) by rw [hbs.out,Vj (by rw [HL.out];omega),VM]);go_wp2_with fail;refine WF (v:= .tuple #[]) (Wx rfl _ _ _) rfl ⟨rfl,q',HB3,hs⟩
theorem iW (l:List Int):(iv l).length=8+8*l.length:=by
 unfold iv;rw [laA,au,kv au]
theorem yA (l:List bK):(Jl l).length=8+16*l.length:=by
 unfold Jl;rw [laA,au,kv (n:=16) (fun x=>by simp [lF,au])]
theorem AS (b:Bool):(tr1 b).length=1:=rfl
def InB (B:Nat) (a:Option Addr) (n:Nat):Prop:=0<n->∀ad,a=some ad->ad.block<B
theorem InB.mono {B B':Nat} {a:Option Addr} {n:Nat} (h:InB B a n) (hB:B<=B'):InB B' a n:=fun h1 ad h2=>VF (h h1 ad h2) hB
theorem aw.low {w w':World} {B:Nat} {a:Option Addr} {vs:List Value} {n:Nat} (h:aw w a vs) (hi:InB B a n) (hn:n=0->vs=[]) (hb:Below B w w'):aw w' a vs:=fun i hi2=>by
 obtain ⟨b,o,e,hc⟩:=h i hi2;have hp:0<n:=by
  rcases Nat.eq_zero_or_pos n with h0|h0
  .rw [hn h0] at hi2;simp at hi2
  .exact h0
 exact ⟨b,o,e,(VJ (a:=⟨b,o+i,none⟩) (hb.block b (hi hp _ e))).trans hc⟩
theorem mI.low {w w':World} {B:Nat} {s:Sl} {l:List Int} (h:mI w s l) (hi:InB B s.a s.n) (hb:Below B w w'):mI w' s l:=
 ⟨aw.low h.1 hi (fun h0=>by have:=h.2.1;rw [h0] at this;rw [Vz this];rfl) hb,h.2⟩
theorem ju.low {w w':World} {B:Nat} {s:Sl} {l:List bK} (h:ju w s l) (hi:InB B s.a s.n) (hb:Below B w w'):ju w' s l:=
 ⟨aw.low h.1 hi (fun h0=>by have:=h.2.1;rw [h0] at this;rw [Vz this];rfl) hb,h.2⟩
theorem mI.inB {w:World} {s:Sl} {l:List Int} (h:mI w s l):InB w.heap.size s.a s.n:=fun hn ad ha=>by
 obtain ⟨b,o,e,hc⟩:=h.1 0 (by have:=h.2.1;simp;omega);rw [ha] at e;cases e;exact VV w _ hc
theorem ju.inB {w:World} {s:Sl} {l:List bK} (h:ju w s l):InB w.heap.size s.a s.n:=fun hn ad ha=>by
 have hl:(l.flatMap bK.cells).length=2*l.length:=by
  have e:∀l:List bK,(l.flatMap bK.cells).length=2*l.length:=fun l=>by
   induction l with
   |nil=>rfl
   |cons x l ih=>rw [Vh,laA,ih,VT];show 2+_=_;omega
  exact e l
 obtain ⟨b,o,e,hc⟩:=h.1 0 (by have:=h.2.1;omega);rw [ha] at e;cases e;exact VV w _ hc
theorem InB.off {w:World} {B:Nat} {q:WC} (hq:WAt w B q) {s:Sl} {n:Nat} (hn:n=s.n) (h:InB B s.a s.n) {α:Type} {l:List α} (hl:l.length=s.n):l≠ []->∀ad,s.a=some ad->¬fC q ad.block:=fun hne ad ha hf=>by
 have h1:=(hq.lt hf).1;have h2:=h (by have:=List.length_pos_iff.2 hne;omega) ad ha;omega
structure gv (w:World) (B:Nat) (p:bq) (h:dt):Prop where
 at':eK w p h
 ids:InB B h.ids.a h.ids.n
 pairs:InB B h.pairs.a h.pairs.n
theorem gv.low {w w':World} {B:Nat} {p:bq} {h:dt} (a:gv w B p h) (hb:Below B w w'):gv w' B p h:=
 ⟨⟨a.at'.op,a.at'.side,a.at'.place,a.at'.target,a.at'.ids.low a.ids hb,a.at'.pairs.low a.pairs hb⟩,a.ids,a.pairs⟩
theorem gv.of {w:World} {p:bq} {h:dt} (a:eK w p h):gv w w.heap.size p h:=⟨a,a.ids.inB,a.pairs.inB⟩
theorem gv.mono {w:World} {B B':Nat} {p:bq} {h:dt} (a:gv w B p h) (hB:B<=B'):gv w B' p h:=⟨a.at',a.ids.mono hB,a.pairs.mono hB⟩
theorem FF (w:World) (B:Nat) (q:WC) (b:Nat) (p:bq) (h:dt) (hq:WAt w B q) (hB:B<=w.heap.size) (hx:Blk w b (ay p h).toArray 38) (ha:gv w B p h) (hb:b<B) (hz:q.bs.length+2*(dq p).length+2000<1000000000000):
  Calls prog 121 #[.pointer (some ⟨q.c,0,none⟩),.pointer (some ⟨b,0,none⟩)] w fun e w'=>e= .returned (.tuple #[])/\∃q',Hid (q'.bs=q.bs++dq p)/\ft B w q w' q':=by
 have hmf:∀(fn:Fn) (first cap:Array Value) (w:World),(Instr.makeFunc fn first cap).run prog w= .ok (.func fn first cap) w:=fun _ _ _ _=>rfl;have hlen:(dq p).length=48+8*p.ids.length+16*p.pairs.length:=by
  simp only [dq,laA,au,iW,yA];omega
 rw [hlen] at hz;clear hlen;have x0:w.cell? ⟨b,0,none⟩=some (.int .i8 p.op):=hx.rule 0;have x1:w.cell? ⟨b,1,none⟩=some (.int .i64 p.side):=hx.rule 1;have x2:w.cell? ⟨b,2,none⟩=some (.int .i64 p.place):=hx.rule 2;have x3:w.cell? ⟨b,3,none⟩=some (.int .i64 p.target):=hx.rule 3;have x4:w.cell? ⟨b,4,none⟩=some (.slice h.ids.a h.ids.n h.ids.c):=hx.rule 4;have x5:w.cell? ⟨b,5,none⟩=some (.slice h.pairs.a h.pairs.n h.pairs.c):=hx.rule 5;have z0:w.frozen? ⟨b,0,none⟩=false:=hx.free 0;have hbl:=hx.lt;have hoff:∀{W:World} {Q:WC},WAt W B Q->¬fC Q b:=fun hQ hf=>(by have:=(hQ.lt hf).1;omega);have hf:=hoff hq;clear hx;have hal:=ha.at'.ids.2.1;have hpl:=ha.at'.pairs.2.1;obtain ⟨op,side,place,target,ids,pairs⟩:=p;dsimp only at*;go_enter func121,ntmps121;have cb:=Hp w B q b 0 op hq hB x0 z0 ha.at'.op hf oA;go_wp2_with fail;refine cb.mono ?_;clear cb;rintro e w1 ⟨rfl,q1,hbs1,hs1⟩;have hc1:=hs1.c;have hb1':=hs1.at'.blk.lt;go_upto_region 1 with (fail);have y1:=hs1.cell x1 hf;have y2:=hs1.cell x2 hf;have y3:=hs1.cell x3 hf;have hf1:=hoff hs1.at';have hbl1:=VF hbl hs1.turn.size;have hB1:=At hB hs1.turn.size;have hq1:=hs1.at';have hl1:q1.bs.length=q.bs.length+8:=(by rw [hbs1.out,laA,au]);refine aj false (aq (fun _=>False)) (aq.refl _) (fun _ _ _ h1 h2=>aq.trans h1 h2) (.step 0 (.step 1 (.step 2 (.step 3 (.step 4 (.step 5 (.step 6 (.step 7 (.step 8 (.step 9 (.step 10 (.step 11 .done)))))))))))) krA krA cdA ?_
 repeat (first|refine tsA ?_|refine tqA ?_)
 refine an rfl rfl rfA (fun K hK=> ?_);go_wp2_with fail;refine hK _ _ ⟨skA,fun _ h=>h.elim⟩ ?_;clear hK K
 repeat (first|refine tsA ?_|refine tqA ?_)
 refine an rfl rfl rfA (fun K hK=> ?_);go_wp2_with fail;have hb1:Below w1.heap.size w1 (w1.alloc (.cells #[.pointer (some ⟨b,1,none⟩),.pointer (some ⟨b,2,none⟩),.pointer (some ⟨b,3,none⟩)] 209)).drew:=cL;have cb:=Gf _ B q1 w1.heap.size 3 [(b,1,side),(b,2,place),(b,3,target)] (hq1.old hb1) (At hB1 hb1.size) (Blk.new w1 #[.pointer (some ⟨b,1,none⟩),.pointer (some ⟨b,2,none⟩),.pointer (some ⟨b,3,none⟩)] 209).drew hq1.fresh rfl (fun x hx=>by
  simp only [Ve,List.mem_nil_iff,or_false] at hx;rcases hx with rfl|rfl|rfl
  .exact ⟨by rw [hb1.cell (p:=⟨b,_,none⟩) hbl1];exact y1,hf1⟩
  .exact ⟨by rw [hb1.cell (p:=⟨b,_,none⟩) hbl1];exact y2,hf1⟩
  .exact ⟨by rw [hb1.cell (p:=⟨b,_,none⟩) hbl1];exact y3,hf1⟩) oA
 rw [hc1] at cb;refine cb.mono ?_;clear cb;rintro e w2 ⟨rfl,q2,hbs2,hs2⟩;have hz2:=hs2.turn.size;replace hs2:=hs2.pre hb1;go_wp2_with fail;refine hK _ _ ⟨by simpa using hz2,fun _ h=>h.elim⟩ ?_;clear hK K;refine ap ?_;have hs02:=hs1.trans hs2;have HB2:=Hd (show q2.bs=q.bs++(be8 op++be8 side++be8 place++be8 target) by rw [hbs2.out,hbs1.out];simp);have cb:=zM w2 B q2 b 4 h.ids ids hs02.at' (At hB hs02.turn.size) (hs02.cell x4 hf) (ha.low (hs02.below hq hB)).at'.ids (hoff hs02.at') (InB.off hs02.at' rfl ha.ids hal) (by rw [HB2.out];simp only [laA,au,iW,AS];omega);rw [hs02.c] at cb;go_wp2_with fail;refine cb.mono ?_;clear cb;rintro e w3 ⟨rfl,q3,hbs3,hs3⟩;have HB3:=Hd (show q3.bs=q.bs++(be8 op++be8 side++be8 place++be8 target++iv ids) by rw [hbs3.out,HB2.out];simp [iv,encU,Jl]);have hs03:=hs02.trans hs3;have cb:=wF w3 B q3 b 5 h.pairs pairs hs03.at' (At hB hs03.turn.size) (hs03.cell x5 hf) (ha.low (hs03.below hq hB)).at'.pairs (hoff hs03.at') (InB.off hs03.at' rfl ha.pairs hpl) (by rw [HB3.out];simp only [laA,au,iW,AS];omega);rw [hs03.c] at cb;go_wp2_with fail;refine cb.mono ?_;clear cb;rintro e w4 ⟨rfl,q4,hbs4,hs4⟩;have HB4:=Hd (show q4.bs=q.bs++(be8 op++be8 side++be8 place++be8 target++iv ids++Jl pairs) by rw [hbs4.out,HB3.out];simp [iv,encU,Jl]);have hs04:=hs03.trans hs4;go_wp2_with fail;refine WF (v:= .tuple #[]) (Wx rfl _ _ _) rfl ⟨rfl,q4,Hd ?_,hs04⟩;rw [HB4.out];simp [dq]
end
section
open Go.ChangeShapes Go.WideShapes Go.ChangeAt Go.RowKit
structure ao where
 kind:Int
 game:Int
 table:Int
 fmt:bz
 n0:bz
 n1:bz
 d0:List Int
 d1:List Int
 dr:List Int
 act:bq
deriving DecidableEq
structure aW where
 d0:Sl
 d1:Sl
 dr:Sl
 act:dt
deriving Inhabited
def ak (p:ao) (h:aW):List Value:=[.int .i8 p.kind,.int .i64 p.game,.int .i64 p.table,.string p.fmt,.string p.n0,.string p.n1,.slice h.d0.a h.d0.n h.d0.c,.slice h.d1.a h.d1.n h.d1.c,.slice h.dr.a h.dr.n h.dr.c,.int .i8 p.act.op,.int .i64 p.act.side,.int .i64 p.act.place,.int .i64 p.act.target,.slice h.act.ids.a h.act.ids.n h.act.ids.c,.slice h.act.pairs.a h.act.pairs.n h.act.pairs.c]
def dR (p:ao) (h:aW):Value:= .agg #[.int .i8 p.kind,.int .i64 p.game,.int .i64 p.table,.string p.fmt,.string p.n0,.string p.n1,.slice h.d0.a h.d0.n h.d0.c,.slice h.d1.a h.d1.n h.d1.c,.slice h.dr.a h.dr.n h.dr.c,.int .i8 p.act.op,.int .i64 p.act.side,.int .i64 p.act.place,.int .i64 p.act.target,.slice h.act.ids.a h.act.ids.n h.act.ids.c,.slice h.act.pairs.a h.act.pairs.n h.act.pairs.c]
theorem aH (p:ao) (h:aW):dR p h= .agg (ak p h).toArray:=rfl
theorem tz (p:ao) (h:aW):(ak p h).length=15:=rfl
def qJ (s:bz):Prop:=s.size<=140737488351232
structure dC (w:World) (p:ao) (h:aW):Prop where
 kind:wf8 p.kind
 game:eO p.game
 table:eO p.table
 fmt:qJ p.fmt
 n0:qJ p.n0
 n1:qJ p.n1
 d0:mI w h.d0 p.d0
 d1:mI w h.d1 p.d1
 dr:mI w h.dr p.dr
 act:eK w p.act h.act
theorem dC.old {w w':World} {p:ao} {h:aW} (a:dC w p h) (hb:Below w.heap.size w w'):dC w' p h:=
 ⟨a.kind,a.game,a.table,a.fmt,a.n0,a.n1,a.d0.old hb,a.d1.old hb,a.dr.old hb,a.act.old hb⟩
structure aX (w:World) (B:Nat) (p:ao) (h:aW):Prop where
 kind:wf8 p.kind
 game:eO p.game
 table:eO p.table
 fmt:qJ p.fmt
 n0:qJ p.n0
 n1:qJ p.n1
 d0:av w B h.d0 p.d0
 d1:av w B h.d1 p.d1
 dr:av w B h.dr p.dr
 act:bh w B p.act h.act
section
variable {w w':World} {B:Nat} {p:ao} {h:aW}
theorem aX.at (a:aX w B p h):dC w p h:=⟨a.kind,a.game,a.table,a.fmt,a.n0,a.n1,a.d0.at,a.d1.at,a.dr.at,a.act.at⟩
theorem aX.old (a:aX w B p h) (hb:Below w.heap.size w w'):aX w' B p h:=⟨a.kind,a.game,a.table,a.fmt,a.n0,a.n1,a.d0.old hb,a.d1.old hb,a.dr.old hb,a.act.old hb⟩
theorem aX.lower (a:aX w B p h) {B':Nat} (hB:B'<=B):aX w B' p h:=⟨a.kind,a.game,a.table,a.fmt,a.n0,a.n1,a.d0.lower hB,a.d1.lower hB,a.dr.lower hB,a.act.lower hB⟩
end
structure DB (w:World) (B:Nat) (p:ao) (h:aW):Prop where
 at':dC w p h
 d0:InB B h.d0.a h.d0.n
 d1:InB B h.d1.a h.d1.n
 dr:InB B h.dr.a h.dr.n
 ids:InB B h.act.ids.a h.act.ids.n
 pairs:InB B h.act.pairs.a h.act.pairs.n
theorem DB.of {w:World} {p:ao} {h:aW} (a:dC w p h):DB w w.heap.size p h:=⟨a,a.d0.inB,a.d1.inB,a.dr.inB,a.act.ids.inB,a.act.pairs.inB⟩
theorem KF:Tryz.prog.cellsOf 9=1:=by kernel_rfl
theorem Oy:Tryz.prog.cellsOf 33=2:=by kernel_rfl
theorem Ll:Tryz.prog.cellsOf 35=2:=by kernel_rfl
theorem Pb:Tryz.prog.cellsOf 38=6:=by kernel_rfl
theorem aZ:lR prog 40 15:=⟨⟨_,underlying40,rfl⟩,krA⟩
theorem GK:lR prog 38 6:=⟨⟨_,underlying38,rfl⟩,krA⟩
section
variable {H:Type} {enc:TypeId×Value->H} {P:Program} {w:World}
theorem qz.name {t:TypeId} {c:Value} (h:qz enc P w t [c]) (hs:P.underlying t=some .string):∃s:bz,c= .string s/\qJ s:=by
 obtain ⟨n,x,h1,h2⟩:=h;obtain ⟨s,hc,hx,_⟩:=DataW.trod_string hs h1;simp at hc;refine ⟨s,hc,?_⟩;have:=h2 s.data.toList.length (by rw [hx];simp [DataW.weights]);rw [Array.length_toList] at this;exact this
end
section
variable {H:Type} {enc:TypeId×Value->H} {w:World}
theorem CZ {cs:List Value} (hlen:cs.length=15) (hc:qz enc prog w 40 cs):∃(p:ao) (h:aW),cs=ak p h/\dC w p h:=by
 have f0:=hc.field underlying40 0 dcA;have f1:=hc.field underlying40 1 dcA;have f2:=hc.field underlying40 2 dcA;have f3:=hc.field underlying40 3 dcA;have f4:=hc.field underlying40 4 dcA;have f5:=hc.field underlying40 5 dcA;have f6:=hc.field underlying40 6 dcA;have f7:=hc.field underlying40 7 dcA
 match cs,hlen with
 | [c0,c1,c2,c3,c4,c5,c6,c7,c8,c9,c10,c11,c12,c13,c14],_=>
  simp [i8c,MK,IR,KF,Oy,Ll,Pb] at f0 f1 f2 f3 f4 f5 f6 f7;have g0:=f4.elem underlying33 0 dcA;have g1:=f4.elem underlying33 1 dcA;have k0:=f5.elem underlying35 0 dcA;have k1:=f5.elem underlying35 1 dcA;simp [KF,IR] at g0 g1 k0 k1;obtain ⟨n0,rfl,w0⟩:=f0.int underlying32;obtain ⟨n1,rfl,w1⟩:=f1.int underlying3;obtain ⟨n2,rfl,w2⟩:=f2.int underlying3;obtain ⟨n3,rfl,w3⟩:=f3.name underlying9;obtain ⟨n4,rfl,w4⟩:=g0.name underlying9;obtain ⟨n5,rfl,w5⟩:=g1.name underlying9;obtain ⟨s6,l6,rfl,w6⟩:=kS k0;obtain ⟨s7,l7,rfl,w7⟩:=kS k1;obtain ⟨s8,l8,rfl,w8⟩:=kS f6;obtain ⟨p,h,e,w9⟩:=wX rfl f7;unfold ay at e;simp only [XG] at e;obtain ⟨rfl,rfl,rfl,rfl,rfl,rfl,-⟩:=e;exact ⟨⟨n0,n1,n2,n3,n4,n5,l6,l7,l8,p⟩,⟨s6,s7,s8,h⟩,rfl,⟨w0,w1,w2,w3,w4,w5,w6,w7,w8,w9⟩⟩
end
end
end Go.Proofs.YtioigihakjlopaaGreat
