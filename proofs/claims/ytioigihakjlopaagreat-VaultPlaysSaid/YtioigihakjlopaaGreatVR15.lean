import Derived.Test.YtioigihakjlopaaGreatVR14
namespace Go.Proofs.YtioigihakjlopaaGreat
open Go.Proofs.Tryz
set_option linter.unusedVariables false
set_option linter.unusedSimpArgs false
set_option maxHeartbeats 16000000
set_option maxRecDepth 100000
section
open Go.RowKit Go.Maps
structure BG (w1:As) (B:Nat) (r1:cz) (l:List dg) (f:dg) (g c i:Nat) (wr:As):Prop where
 row:Own wr B 118 3 (some ⟨g,0,none⟩) (l.length+1) c ((gQ l f i).flatMap aW)
 turn:aJ (fun x=>x=g) w1 wr
 more:∀j (hj:j<l.length),i<=j->rK f.nm l[j].nm=true
theorem BG.at {w1 wr:As} {B:Nat} {A:cz} {l:List dg} {f:dg} {g c i:Nat} (h:BG w1 B A l f g c i wr) (D:cS w1 B A) (H:A.fs=l++ [f]) (I:A.la=some ⟨g,0,none⟩) (E:A.lc=c):cS wr B {A with fs:=gQ l f i}:=by
 have hx:∃F,Blk w1 g F 118:=by
  obtain ⟨_,_,F,E⟩:=D.row.block_lt I;exact ⟨F,E⟩
 obtain ⟨F,M⟩:=hx;have G:∀{b:Nat} {cs:AS} {t:TypeId},Blk w1 b cs t->t≠118->wr.heap[b]? =w1.heap[b]? :=fun J O=>h.turn.block _ J.lt (Blk.ne J M O);have N:A.fs.length=l.length+1:=(by rw [H];simp);have L:(gQ l f i).Perm A.fs:=(by rw [H];exact sD l f i);refine ⟨D.ged,(G D.blk dcA).trans ?_,?_,fun q P=> ?_,?_,?_⟩
 .have:=D.blk;unfold Blk cF at*;rw [this];simp [ew,N]
 .show Own wr B 118 3 A.la (gQ l f i).length A.lc ((gQ l f i).flatMap aW);rw [I,ew,E];exact h.row
 .have hq':q∈A.fs:=L.mem_iff.1 P;refine (D.files q hq').keepAt fun x hx=> ?_;obtain ⟨_,_,F,E⟩:=(D.files q hq').block_lt hx;exact G E dcA
 .refine D.plan.keepAt fun x hx=> ?_;obtain ⟨_,_,F,E⟩:=D.plan.block_lt hx;exact G E dcA
 .exact D.ok.perm (p:=A.p) (L.map dg.p)
theorem BG.old {w1 wr w':As} {B:Nat} {A:cz} {l:List dg} {f:dg} {g c i:Nat} (h:BG w1 B A l f g c i wr) (D:Below wr.heap.size wr w'):BG w1 B A l f g c i w':=⟨h.row.old D,h.turn.trans (aJ.of_below (F:=fun x=>x=g) D) (fun _ E=> .inl E),h.more⟩
theorem Cp (E:AS) (k:Nat) (a b c:Value) (L:k+3<=E.size):(cU E k #[a,b,c]).toList=((E.toList.set k a).set (k+1) b).set (k+2) c:=by
 have G:E.toList.length=E.size:=Xe;have F:(E.toList.drop k).length=E.size-k:=(by rw [ldA,G]);have H:E.toList=E.toList.take k++E.toList.drop k:=(WP _ _).symm;have I:(E.toList.take k).length=k:=(by rw [ltA,G];omega);have J:E.toList.drop (k+3)=(E.toList.drop k).drop 3:=(by rw [XW]);unfold cU;show E.toList.take k++ [a,b,c]++E.toList.drop (k+3)=_;rw [J];generalize M:E.toList.drop k=D at*;generalize E.toList.take k=A at*;rw [H]
 match D,F with
 |x::y::z::R,_=>
  subst I;rw [Yr _ _ oA,Yr _ _ oA,Yr _ _ oA];simp
 | [],F=>simp at F;omega
 | [_],F=>simp at F;omega
 | [_,_],F=>simp at F;omega
theorem Own.store3 {w:As} {B g n c:Nat} {fs:List dg} {A:AS} (h:Own w B 118 3 (some ⟨g,0,none⟩) n c (fs.flatMap aW)) (G:Blk w g A 118) (k:Nat) (L:k<fs.length) (q:dg):
  Own (w.setRow g (cU A (k*3) #[.string q.nm,.slice q.a q.b.length q.c,.int .i64 (q.sure:Int)])) B 118 3 (some ⟨g,0,none⟩) n c ((fs.set k q).flatMap aW)/\k*3+3<=A.size:=by
 have H:=h.1;rw [wt] at H;have P:fs.length=n:=oA;rcases h.2 with ⟨D,R⟩|⟨S,cap,E,D,I,M,J,N,T,O⟩
 .simp at D
 .simp only [Vi,Vu,Xy] at D;obtain ⟨⟨rfl,-⟩,-,rfl⟩:=D;have e:E=A:=by
   have:=(show w.heap[g]? =_ from M).symm.trans G;simpa using this
  subst e;have F:k*3+3<=E.size:=oA;refine ⟨⟨by rw [wt,XZ];exact H,.inr ⟨g,c,_,rfl,I,G.setRow _,J,N,?_,?_⟩⟩,F⟩
  .have:=WS List.length (Cp E (k*3) (.string q.nm) (.slice q.a q.b.length q.c) (.int .i64 (q.sure:Int)) F);simp only [XZ,Xe] at this;omega
  .rw [Cp _ _ _ _ _ F,ZU,ZU,ZU,O,zK L]
theorem BG.drewN {w1 wr:As} {B:Nat} {A:cz} {l:List dg} {f:dg} {g c i:Nat} (h:BG w1 B A l f g c i wr) (n:Nat):BG w1 B A l f g c i (wr.drewN n):=⟨h.row.keepAt fun _ _=>rfl,h.turn.drewN n,h.more⟩
theorem uy {w:As} {B:Nat} {g n c:Nat} {fs:List dg} (h:Own w B 118 3 (some ⟨g,0,none⟩) n c (fs.flatMap aW)) (k:Nat) (G:k<fs.length):w.cell? ⟨g,k*3,none⟩=some (.string fs[k].nm)/\w.cell? ⟨g,k*3+1,none⟩=some (.slice fs[k].a fs[k].b.length fs[k].c)/\w.cell? ⟨g,k*3+2,none⟩=some (.int .i64 (fs[k].sure:Int)):=by
 obtain ⟨b,o,H,_,A⟩:=av.elem (g:=aW) (sz:=3) (fun _=>rfl) h.row oA k G;cases H;have D:=A 0 (show 0<3 by omega);have E:=A 1 (show 1<3 by omega);have F:=A 2 (show 2<3 by omega);simp only [VN,Yf] at D E F;exact ⟨D,E,F⟩
theorem BG.post {w w3 wr:As} {B:Nat} {r:cz} {f:dg} {g c i:Nat} (h:BG w3 B {r with fs:=r.fs++ [f],la:=some ⟨g,0,none⟩,lc:=c} r.fs f g c i wr) (G:cS w3 B {r with fs:=r.fs++ [f],la:=some ⟨g,0,none⟩,lc:=c})
  (H:aJ (fun x=>x=r.d\/∃A,r.la=some A/\x=A.block) w w3) (F:∀A,some (⟨g,0,none⟩:Addr)=some A->(∃E,r.la=some E/\A.block=E.block)\/w.heap.size<=A.block) (I:i<=r.fs.length)
  (J:i=0\/∃h:i-1<r.fs.length,rK f.nm r.fs[i-1].nm=false):rm B w r f wr:=by
 refine ⟨i,some ⟨g,0,none⟩,c,I,J,h.more,h.at G rfl rfl rfl,H.trans h.turn fun k L=> ?_,F⟩;subst L;rcases F _ rfl with D|D
 .exact .inl (.inr D)
 .exact .inr D
theorem Fu (w:As) (B:Nat) (r:cz) (f:dg) (h:cS w B r) (hB:B<=w.heap.size) (hf:Own w B 5 1 f.a f.b.length f.c (f.b.map bv)) (B7:dY (cz.p {r with fs:=r.fs++ [f]})):
  Calls prog 65 #[.pointer (some ⟨r.d,0,none⟩),.agg #[.string f.nm,.slice f.a f.b.length f.c,.int .i64 (f.sure:Int)]] w fun e w'=>e= .returned (.tuple #[])/\rm B w r f w':=by
 have C8:r.fs.length+1<=64:=(by have:=B7.count;simpa [cz.p] using this);have HO:=Hd B7;have hz:r.d<w.heap.size:=h.blk.lt;obtain ⟨H,A1⟩:=At (w.alloc (.cells (aW f).toArray 118));have I:Below w.heap.size w H:=A1▸(VW _ _).alloc (VU _) _;have DO:Blk H w.heap.size (aW f).toArray 118:=A1▸Blk.new _ _ _;have D0:B<=H.heap.size:=Vd hB I.size;have D1:H.heap.size=w.heap.size+1:=(by rw [A1];simp);have HW:=Hd A1;have D2:=h.old I;have V:=D2.blk;unfold cF at V;clear B7;go_enter func65,ntmps65;go_upto_region 1 with fail;rw [show w.alloc (.cells #[.string f.nm,.slice f.a f.b.length f.c,.int .i64 (f.sure:Int)] 118)=H from HW.out.symm];obtain ⟨S,hS⟩:∃S:Nat->Prop,S=fun x=>x=r.d\/x=w.heap.size:=⟨_,rfl⟩;have T:=Hd hS;clear hS A1;have F0:∀W,au S H.drew W->W.cell? ⟨r.d,0,none⟩=some (.slice r.la r.fs.length r.lc):=fun W A=>by
  have:Blk W r.d _ _:=(A.2 r.d (by rw [T.out];exact .inl rfl)).trans V;exact this.rule 0
 have A9:∀W,au S H.drew W->∀i,W.cell? ⟨w.heap.size,i,none⟩=(aW f).toArray[i]? :=fun W A i=>by
  have:Blk W w.heap.size _ _:=(A.2 w.heap.size (by rw [T.out];exact .inr rfl)).trans DO;exact this.rule i
 have k0:∀W,au S H.drew W->W.cell? ⟨w.heap.size,0,none⟩=some (.string f.nm):=fun W A=>A9 W A 0;have k1:∀W,au S H.drew W->W.cell? ⟨w.heap.size,1,none⟩=some (.slice f.a f.b.length f.c):=fun W A=>A9 W A 1;have k2:∀W,au S H.drew W->W.cell? ⟨w.heap.size,2,none⟩=some (.int .i64 (f.sure:Int)):=fun W A=>A9 W A 2;clear A9;refine ah true (au S) (au.refl _) (fun _ _ _ h1 h2=>au.trans h1 h2) (.step 0 (.step 1 (.step 2 (.step 3 (.step 4 (.step 5 (.step 6 (.step 7 (.step 8 (.step 9 (.step 10 .done))))))))))) krA krA cdA ?_
 repeat refine txA ?_
 refine am rfl rfl rfA (fun K L=> ?_);go_wp2_with fail;have J:Below H.heap.size H (H.alloc (.cells (aW f).toArray 118)).drew:=((VW _ _).alloc (VU _) _).drew;have A6:∀x,S x->x<H.heap.size:=fun x hx=>(by rw [T.out] at hx;rcases hx with rfl|rfl<;>omega);refine L _ _ ⟨(au.below J A6).1,(au.below J A6).2⟩ ?_
 clear L K
 repeat refine txA ?_
 refine am rfl rfl rfA (fun K L=> ?_);refine gA (.tmp 10) (.tmp 12) 46 rfl MQ rfl ((h.row.old I).old J) rfl (av.new' _ _ _ _ D1) rfl oA (by exact de _ rfl) mxA oA (Vd D0 J.size) ?_;intro g c2 O C6 o C9;have D3:∀D,r.la=some D->D.block<w.heap.size:=fun D s=>(h.row.block_lt s).2.1;have B9:au S (H.alloc (.cells (aW f).toArray 118)).drew O:=⟨o.size,fun x hx=>o.block x (VP (A6 x hx) J.size) fun e=>by
  rw [T.out] at hx;cases M:r.la with
  |none=>rw [M] at e;cases e
  |some D=>
   rw [M] at e;have e2:x=D.block:=(by simpa [Value.ownBlock] using e);obtain ⟨_,_,_,P⟩:=h.row.block_lt M;rcases hx with rfl|rfl
   .exact Blk.ne h.blk P dcA e2
   .have:=D3 D M;omega⟩
 refine L _ _ B9 ?_;clear L K;have A0:Blk O r.d _ _:=((B9.2 r.d (by rw [T.out];exact .inl rfl)).trans (J.block _ (VP hz I.size))).trans V;have E6:=A0.free;have E7:=A0.rule 0;have CK:∀{b:Nat} {cs:AS} {t:TypeId},Blk w b cs t->t≠118->O.heap[b]? =w.heap[b]? :=fun U F1=>by
  refine ((o.block _ (VP U.lt (Vd I.size J.size)) fun e=> ?_).trans (J.block _ (VP U.lt I.size))).trans (I.block _ U.lt);cases M:r.la with
  |none=>rw [M] at e;cases e
  |some D=>
   rw [M] at e;obtain ⟨_,_,_,P⟩:=h.row.block_lt M;exact Blk.ne U P F1 (by simpa [Value.ownBlock] using e)
 have F2:w.heap.size<=O.heap.size:=Vd (Vd I.size J.size) o.size;have CW:∀x,x≠r.d->(O.setCell ⟨r.d,0,none⟩ (.slice (some ⟨g,0,none⟩) (r.fs.length+1) c2)).heap[x]? =O.heap[x]? :=fun x hx=>Vq _ _ _ _ hx;have A2:=Hd (show cS (O.setCell ⟨r.d,0,none⟩ (.slice (some ⟨g,0,none⟩) (r.fs.length+1) c2)) B {r with fs:=r.fs++ [f],la:=some ⟨g,0,none⟩,lc:=c2} by
  refine ⟨h.ged,?_,?_,?_,?_,HO.out⟩
  .have:=A0.set 0 (.slice (some ⟨g,0,none⟩) (r.fs.length+1) c2);unfold cF;simpa using this
  .have:=C6.setCell_apart A0 dcA 0 (.slice (some ⟨g,0,none⟩) (r.fs.length+1) c2);simpa [aW] using this
  .intro q Y;have D4:Own w B 5 1 q.a q.b.length q.c (q.b.map bv):=by
    rcases Ve.1 Y with Y|Y
    .exact h.files q Y
    .rw [VS.1 Y];exact hf
   refine D4.keepAt fun x hx=> ?_;obtain ⟨_,_,_,P⟩:=D4.block_lt hx;exact (CW _ (Blk.ne P h.blk dcA)).trans (CK P dcA)
  .refine h.plan.keepAt fun x hx=> ?_;obtain ⟨_,_,_,P⟩:=h.plan.block_lt hx;exact (CW _ (Blk.ne P h.blk dcA)).trans (CK P dcA))
 have D5:=Hd (show aJ (fun x=>x=r.d\/∃D,r.la=some D/\x=D.block) w (O.setCell ⟨r.d,0,none⟩ (.slice (some ⟨g,0,none⟩) (r.fs.length+1) c2)) by
  have t1:=((aJ.of_below (F:=fun x=>x=r.d\/∃D,r.la=some D/\x=D.block) (I.trans (J.mono I.size))).trans (aJ.of_grown (F:=fun x=>x=r.d\/∃D,r.la=some D/\x=D.block) o (fun k e=>by
   cases M:r.la with
   |none=>rw [M] at e;cases e
   |some D=>
    rw [M] at e;exact .inr ⟨D,rfl,by simpa [Value.ownBlock] using e.symm⟩)) (fun k Z=> .inl Z))
  exact t1.setCell (x:=⟨r.d,0,none⟩) (.inl (.inl rfl)) _)
 have D6:=Hd (show ∀D,some (⟨g,0,none⟩:Addr)=some D->(∃BY,r.la=some BY/\D.block=BY.block)\/w.heap.size<=D.block by
  intro D s;cases s;rcases C9 with ⟨BY,h1,h2⟩|h1
  .exact .inl ⟨BY,h1,h2⟩
  .exact .inr (Vd (Vd I.size J.size) h1))
 clear F0 k0 k1 k2 CK CW C9 D3 B9 J A6 V DO D2 D1
 repeat refine txA ?_
 refine az rfl rfl rfA (fun K L=> ?_);go_wp2_with fail;refine aq ?_;clear o C6 A0 E6 E7 F2 HW I D0 C8;generalize O.setCell ⟨r.d,0,none⟩ (.slice (some ⟨g,0,none⟩) (r.fs.length+1) c2)=w3 at*;have B6:=A2.out;have D7:=B6.blk.rule 0;unfold cF at D7;have e3:((r.fs.length:Int)+1)-1=(r.fs.length:Int):=oA;have C8:r.fs.length+1<=64:=(by have:=HO.out.count;simpa [cz.p] using this);go_wp2_with fail;have D8:BG w3 B {r with fs:=r.fs++ [f],la:=some ⟨g,0,none⟩,lc:=c2} r.fs f g c2 r.fs.length w3:=⟨by rw [DG];simpa using B6.row,aJ.refl _ _,fun j hj B0=>by omega⟩;go_loopg [4,5] r.fs.length (fun fu v4 v5 wr=>v4= .int .i64 (fu:Int)/\fu<=r.fs.length/\BG w3 B {r with fs:=r.fs++ [f],la:=some ⟨g,0,none⟩,lc:=c2} r.fs f g c2 fu wr)
 case atStart=>exact ⟨rfl,VU _,D8⟩
 case round=>
  obtain ⟨rfl,B0,R⟩:=hrel;clear D8 B6 D7 e3;have s:=R.at A2.out rfl rfl rfl;have V:=s.blk;have U:=V.rule;unfold cF at U;by_cases h0:gk=0
  .subst h0;go_wp2_with fail;go_quiet (fail);go_wp2_with fail;refine WR (v:= .tuple #[]) (WZ rfl _ _ _) rfl ⟨rfl,?_⟩;exact (R.drewN _).post A2.out D5.out D6.out oA (.inl rfl)
  .obtain ⟨j,hj⟩:∃j,gk=j+1:=⟨gk-1,oA⟩;have F3:j<r.fs.length:=oA;have F9:(gk:Int)-1=(j:Int):=oA;have G0:gk<r.fs.length+1:=oA;have F4:0<gk:=oA;have F5:decide (0<gk)=true:=(by simpa using F4);have G1:j<r.fs.length+1:=oA;obtain ⟨D9,EE,EQ⟩:=uy R.row gk (by rw [ew];omega);obtain ⟨C0,C1,C2⟩:=uy R.row j (by rw [ew];omega);rw [Gl _ _ _ B0] at D9 EE EQ;rw [zG _ _ _ _ B0 oA] at C0 C1 C2;have T:=Hd (AV r.fs f j F3);have HJ:=Hd hj;obtain ⟨y,hy⟩:=At (r.fs[j]);rw [<-hy] at C0 C1 C2 T;have HY:=Hd hy;clear hy hj;rw [ew] at U;cases t0:Op.bytesLess f.nm.toList y.nm.toList with
   |false=>
    go_wp2_with fail;go_quiet (fail);go_wp2_with fail;refine WR (v:= .tuple #[]) (WZ rfl _ _ _) rfl ⟨rfl,?_⟩;refine (R.drewN _).post A2.out D5.out D6.out oA (.inr ⟨oA,?_⟩);have e:gk-1=j:=(by have:=HJ.out;omega);simp only [e,<-HY.out];exact t0
   |true=>
    go_wp2_with fail;go_quiet (fail);go_upto_region 6 with (first|refine ae rfl 118 Ku (.tmp 5) _ rfl rfl rfl (Blk.new _ _ _) rfl rfl rfl ?_);refine ag (fun m=>Blk m wr.heap.size (aW f).toArray 118/\Below wr.heap.size wr m) ⟨(Blk.new _ _ _).setRow _,cL⟩ ?_;rintro E ⟨E0,X⟩;have G2:g<wr.heap.size:=(R.row.block_lt rfl).2.1;have A3:=R.old X;have C3:=A3.at A2.out rfl rfl rfl;have B1:=C3.blk;unfold cF at B1;have A7:=B1.rule 0;rw [ew] at A7;obtain ⟨_,_,E8,A5⟩:=A3.row.block_lt rfl;have C4:=Hd (Own.store3 (w:=E.drew) (A3.row.keepAt fun _ _=>rfl) A5 gk (by rw [ew];omega) y);have E1:=C4.out.2;obtain ⟨B2,B3,B4⟩:=uy A3.row j (by rw [ew];omega);rw [zG _ _ _ _ B0 oA,<-HY.out] at B2 B3 B4;have F6:r.d≠g:=Blk.ne B1 A5 dcA;have F7:=Hd t0;clear D9 EE EQ C0 C1 C2 U V s t0 F5;have l0:∀W,Old E.drew W->W.cell? ⟨r.d,0,none⟩=some (.slice (some ⟨g,0,none⟩) (r.fs.length+1) c2):=fun W A=>((A:Below E.drew.heap.size _ W).cell (p:=⟨r.d,0,none⟩) (Vx E _ A7)).trans A7;have l1:∀W,Old E.drew W->W.cell? ⟨g,j*3,none⟩=some (.string y.nm):=fun W A=>((A:Below E.drew.heap.size _ W).cell (p:=⟨g,j*3,none⟩) (Vx E _ B2)).trans B2;have l2:∀W,Old E.drew W->W.cell? ⟨g,j*3+1,none⟩=some (.slice y.a y.b.length y.c):=fun W A=>((A:Below E.drew.heap.size _ W).cell (p:=⟨g,j*3+1,none⟩) (Vx E _ B3)).trans B3;have l3:∀W,Old E.drew W->W.cell? ⟨g,j*3+2,none⟩=some (.int .i64 (y.sure:Int)):=fun W A=>((A:Below E.drew.heap.size _ W).cell (p:=⟨g,j*3+2,none⟩) (Vx E _ B4)).trans B4;have hw:IntKind.i64.wrap ((gk:Int)-1)=(j:Int):=(by rw [VR];omega);have G3:(j:Int)<(r.fs.length:Int)+1:=oA;have G4:(gk:Int)<(r.fs.length:Int)+1:=oA;have G5:IntKind.i64.wrap (j:Int)=(j:Int):=(by rw [VR];omega);refine ah true Old Old.refl Old.trans (.step 0 (.step 1 (.step 2 (.step 3 (.step 4 (.step 5 (.step 6 (.step 7 (.step 8 (.step 9 (.step 10 (.step 11 (.step 12 (.step 13 (.step 14 .done))))))))))))))) krA krA cdA ?_
    repeat refine txA ?_
    refine az rfl rfl rfA (fun K L=> ?_);refine bq 118 Ku (.tmp 66) (.tmp 65) rfl rfl rfl (show Blk E.drew g E8 118 from A5) rfl E1 rfl ?_;refine L _ _ ?_;refine aq ?_;clear L K l0 l1 l2 l3;go_upto_region 7 with fail;refine ag (fun m=>Blk m wr.heap.size (aW f).toArray 118/\Blk m r.d (cF {r with fs:=gQ r.fs f gk,la:=some ⟨g,0,none⟩,lc:=c2}) 49/\Own m B 118 3 (some ⟨g,0,none⟩) (r.fs.length+1) c2 (((gQ r.fs f gk).set gk y).flatMap aW)/\aJ (fun x=>x=g) wr m) ⟨?_,?_,C4.out.1,?_⟩ ?_
    .exact Blk.setRow_other (w:=E.drew) E0 g _ oA
    .exact Blk.setRow_other (w:=E.drew) C3.blk g _ F6
    .exact ⟨X.os,X.tape,X.output,by simpa [World.setRow] using X.size,fun k Z hn=>(Wf E.drew g k _ hn).trans (X.block k Z)⟩
    rintro N ⟨E2,E3,E4,A4⟩;clear C3 B1 A7 A5 C4 E1 B2 B3 B4 A3 E0 X;obtain ⟨_,_,E9,C7⟩:=E4.block_lt rfl;have E5:=Hd (Own.store3 (w:=N.drew) (E4.keepAt fun _ _=>rfl) C7 j (by rw [XZ,ew];omega) f);have F8:=E5.out.2;have A8:=E3.rule 0;unfold cF at A8;rw [ew] at A8;have C5:=E2.lt;have B5:=E2.rule;have m0:∀W,Old N.drew W->W.cell? ⟨r.d,0,none⟩=some (.slice (some ⟨g,0,none⟩) (r.fs.length+1) c2):=fun W A=>((A:Below N.drew.heap.size _ W).cell (p:=⟨r.d,0,none⟩) E3.lt).trans A8;have m1:∀W,Old N.drew W->W.cell? ⟨wr.heap.size,0,none⟩=some (.string f.nm):=fun W A=>((A:Below N.drew.heap.size _ W).cell (p:=⟨wr.heap.size,0,none⟩) C5).trans (B5 0);have m2:∀W,Old N.drew W->W.cell? ⟨wr.heap.size,1,none⟩=some (.slice f.a f.b.length f.c):=fun W A=>((A:Below N.drew.heap.size _ W).cell (p:=⟨wr.heap.size,1,none⟩) C5).trans (B5 1);have m3:∀W,Old N.drew W->W.cell? ⟨wr.heap.size,2,none⟩=some (.int .i64 (f.sure:Int)):=fun W A=>((A:Below N.drew.heap.size _ W).cell (p:=⟨wr.heap.size,2,none⟩) C5).trans (B5 2);clear B5 A8;refine ah true Old Old.refl Old.trans (.step 0 (.step 1 (.step 2 (.step 3 (.step 4 (.step 5 (.step 6 (.step 7 (.step 8 .done))))))))) krA krA cdA ?_
    repeat refine txA ?_
    refine az rfl rfl rfA (fun K L=> ?_);refine bq 118 Ku (.tmp 74) (.tmp 73) rfl rfl rfl (show Blk N.drew g E9 118 from C7) rfl F8 rfl ?_;refine L _ _ ?_;refine aq ?_;clear L K m0 m1 m2 m3;go_wp2_with fail;go_roundg j
    case measure=>omega
    case rel=>
     refine ⟨gnA,oA,?_,?_,?_⟩
     .have h7:=E5.out.1;have e:=T.out;rw [<-HJ.out] at e;rw [e] at h7;exact h7
     .refine R.turn.trans (G:=fun x=>x=g) ⟨A4.os,A4.tape,A4.output,by simpa [World.setRow] using A4.size,fun k Z hn=>(Wf N.drew g k _ hn).trans (A4.block k Z hn)⟩ (fun k Z=> .inl Z)
     .intro q Y hjq;by_cases e:q=j
      .subst e;have:=F7.out;rw [HY.out] at this;exact this
      .exact R.more q Y (by have:=HJ.out;omega)
theorem nQ:∀(x y:Le),Op.bytesLess x y=decide (x<y)
 | [],[]=>by simp [Op.bytesLess]
 |_::_,[]=>by simp [Op.bytesLess]
 | [],_::_=>by simp [Op.bytesLess]
 |a::x,b::y=>by
  rw [Op.bytesLess,nQ x y];simp only [List.cons_lt_cons_iff];by_cases A:a<b<;>by_cases D:a=b<;>by_cases E:x<y<;>simp [A,D,E]
def leN (x y:bB):Prop:=rK y x=false
theorem Dt (x y:bB):leN x y↔x.toList<=y.toList:=by
 unfold leN rK;rw [nQ,YQ,List.not_lt]
theorem xU {x y:bB} (h:rK x y=true):leN x y:=by
 rw [Dt];unfold rK at h;rw [nQ,XX] at h;exact List.not_lt.1 (List.lt_asymm h)
theorem Ds {x y z:bB} (h:leN x y) (h':leN y z):leN x z:=by
 rw [Dt] at*;exact List.le_trans h h'
def jE (l:List bB):Prop:=l.Pairwise leN
theorem jE.ins {l:List bB} (h:jE l) (f:bB) {i:Nat} (N:i<=l.length) (D:i=0\/∃H:i-1<l.length,rK f l[i-1]=false) (L:∀j (G:j<l.length),i<=j->rK f l[j]=true):jE (gQ l f i):=by
 unfold jE gQ;rw [Yj,List.pairwise_cons];have E:(l.take i++l.drop i).Pairwise leN:=(by rw [WP];exact h);rw [Yj] at E;have M:∀a∈l.take i,leN a f:=by
  intro a A;obtain ⟨j,G,rfl⟩:=XC A;have J:j<i/\j<l.length:=(by rw [ltA] at G;omega);rcases D with D|⟨H,D⟩
  .omega
  .rw [ZF];have I:leN l[i-1] f:=D;by_cases e:j=i-1
   .subst e;exact I
   .exact Ds (List.pairwise_iff_getElem.1 h j (i-1) J.2 H oA) I
 refine ⟨E.1,⟨fun a A=> ?_,E.2.1⟩,fun a A b F=> ?_⟩
 .obtain ⟨j,G,rfl⟩:=XC A;rw [Yz];exact xU (L _ _ oA)
 .rcases Vk.1 F with rfl|F
  .exact M a A
  .exact E.2.2 a A b F
structure IG (p q:aN):Prop where
 fs:p.fs.Perm q.fs
 rest:p.down=q.down/\p.armed=q.armed/\p.left=q.left/\p.plan=q.plan
theorem IG.refl (p:aN):IG p p:=⟨List.Perm.refl _,rfl,rfl,rfl,rfl⟩
def cz.names (r:cz):List bB:=r.fs.map (·.nm)
theorem Ia {fs:List dg} {k:Nat} (E:k<fs.length) (A:(fs.map (·.nm)).Nodup):fs.eraseIdx k=fs.filter (fun f=>f.nm≠fs[k].nm):=by
 induction fs generalizing k with
 |nil=>simp at E
 |cons x l ih=>
  simp only [WG,XR] at A;cases k with
  |zero=>
   rw [List.eraseIdx_cons_zero,Yn,List.filter_cons_of_neg skA];symm;rw [List.filter_eq_self];intro a F;simp only [ne_eq,XX];exact fun e=>A.1 (e▸WY (f:=fun x:dg=>x.nm) F)
  |succ k=>
   have D:k<l.length:=(by simpa using E);rw [List.eraseIdx_cons_succ,List.getElem_cons_succ,List.filter_cons_of_pos,ih D A.2];simp only [ne_eq,XX];exact fun e=>A.1 (e▸WY (f:=fun x:dg=>x.nm) (VQ D))
theorem rm.step {B:Nat} {w0 w w':As} {I r:cz} {f:dg} (A:cj B w0 I w r) (P:rm B w r f w') (R:∀D,f.a=some D->eJ I D.block\/w0.heap.size<=D.block):
  ∃J,cj B w0 I w' J/\IG J.p {r.p with fs:=r.p.fs++ [f.p]}/\(jE r.names->jE J.names):=by
 obtain ⟨i,la,lc,S,F,T,U,V,W⟩:=P;have N:=sD r.fs f i;have X:=A.turn.size;refine ⟨_,⟨A.turn.trans (V.mono (G:=eJ r) fun x hx=> ?_) A.foot',U,?_,A.d⟩,⟨?_,rfl,rfl,rfl,rfl⟩,fun Y=> ?_⟩
 .rcases hx with hx|hx
  .exact .inl hx
  .exact .inr (.inl hx)
 .rintro x (hx|⟨D,H,rfl⟩|⟨q,L,D,H,rfl⟩|hx)
  .exact A.foot' _ (.inl hx)
  .rcases W D H with ⟨O,M,Z⟩|M
   .exact A.foot' _ (.inr (.inl ⟨O,M,Z⟩))
   .exact .inr (Vd X M)
  .have E:=N.mem_iff.1 L;rcases Ve.1 E with E|E
   .exact A.foot' _ (.inr (.inr (.inl ⟨q,E,D,H,rfl⟩)))
   .rw [VS.1 E] at H;exact R D H
  .exact A.foot' _ (.inr (.inr (.inr hx)))
 .have:=N.map dg.p;simpa [cz.p] using this
 .have e:(gQ r.fs f i).map (·.nm)=gQ (r.fs.map (·.nm)) f.nm i:=by
   unfold gQ;simp [WB,YG]
  show jE ((gQ r.fs f i).map (·.nm));rw [e];refine jE.ins (l:=r.fs.map dg.nm) Y f.nm (by simpa using S) ?_ ?_
  .rcases F with F|⟨L,F⟩
   .exact .inl F
   .exact .inr ⟨by simpa using L,by simpa using F⟩
  .intro j hj hij;have:=T j (by simpa using hj) hij;simpa using this
def yC (B:Nat) (w:As) (r:cz) (p:aN) (w':As):Prop:=∃r',IG r'.p p/\cj B w r w' r'/\(jE r.names->jE r'.names)
theorem yC.refl {B:Nat} {w:As} {r:cz} {p:aN} (h:cS w B r) (A:p=r.p):yC B w r p w:=⟨r,A▸IG.refl _,cj.refl h,id⟩
theorem Gr (r:cz) (nm:bB):((fF r.p nm).isSome=true/\decide ((0:Int)<=gV r.fs nm)=true)\/((fF r.p nm).isSome=false/\decide ((0:Int)<=gV r.fs nm)=false/\∀f∈r.fs,f.nm≠nm):=by
 rcases qu r.fs nm with ⟨k,F,E,A,D⟩|⟨E,A,D⟩
 .refine .inl ⟨?_,by rw [A];simp⟩;show ((r.fs.map dg.p).find? _).isSome=true;have e:(r.fs.map dg.p).find? (fun f=>f.name=nm)=some r.fs[k].p:=D;rw [e];rfl
 .refine .inr ⟨?_,by rw [A];rfl,E⟩;show ((r.fs.map dg.p).find? _).isSome=false;have e:(r.fs.map dg.p).find? (fun f=>f.name=nm)=none:=D;rw [e];rfl
theorem Mj {r:cz} {f:dg} (h:dY r.p) (G:∀q∈r.fs,q.nm≠f.nm) (H:dm f.nm=true) (I:f.sure<=f.b.length) (J:f.b.length<=fE) (N:r.fs.length<64):dY (cz.p {r with fs:=r.fs++ [f]}):=by
 have D:∀q∈(r.fs++ [f]).map dg.p,q∈r.p.fs\/q=f.p:=fun q A=>by
  rw [VF] at A;rcases Ve.1 A with A|A
  .exact .inl A
  .exact .inr (by simpa using A)
 refine ⟨?_,fun q A=> ?_,fun q A=> ?_,fun q A=> ?_,?_,h.left⟩
 .show (((r.fs++ [f]).map dg.p).map (·.name)).Nodup;rw [VF,VF,XQ];refine ⟨h.names,skA,?_⟩;intro a L b E e;obtain ⟨q,A,rfl⟩:=VH.1 L;obtain ⟨M,F,rfl⟩:=VH.1 A;simp only [WG,XP,VS] at E;exact G M F (e.trans E)
 .rcases D q A with A|rfl
  .exact h.named q A
  .exact H
 .rcases D q A with A|rfl
  .exact h.sure q A
  .exact I
 .rcases D q A with A|rfl
  .exact h.size q A
  .exact J
 .show ((r.fs++ [f]).map dg.p).length<=64;simp;omega
theorem CD (w:As) (B:Nat) (r:cz) (nm:bB) (h:cS w B r) (O:B<=w.heap.size):
  Calls prog 17 #[.pointer (some ⟨r.d,0,none⟩),.string nm] w fun e w'=>e= .returned (.int .i64 (fd r.p nm).2)/\yC B w r (fd r.p nm).1 w':=by
 have L:=h.blk.rule;unfold cF at L;have I:r.p.fs.length=r.fs.length:=(by simp [cz.p]);cases E:r.down with
 |true=>
  rw [E] at L;have A:=Hd (show fd r.p nm=(r.p,5) by unfold fd;rw [Vz (show r.p.down=true from E)]);go_enter func17,ntmps17;go_wp2_with fail;go_ret;exact ⟨by rw [A.out];first|rfl|simp,by rw [A.out];exact yC.refl h rfl⟩
 |false=>
  rw [E] at L;have F:¬r.p.down=true:=(by simp [cz.p,E]);cases D:dm nm with
  |false=>
   have A:=Hd (show fd r.p nm=(r.p,2) by unfold fd;rw [VV F,Vz D]);have G:=sg nm w;rw [D] at G;clear F D E;go_enter func17,ntmps17;go_wp2_with fail;refine G.mono ?_;rintro e w' ⟨rfl,rfl⟩;go_wp2_with fail;go_ret;exact ⟨by rw [A.out];first|rfl|simp,by rw [A.out];exact yC.refl h rfl⟩
  |true=>
   have G:=sg nm w;rw [D] at G;have J:=vu w B r nm h;rcases Gr r nm with ⟨H,P⟩|⟨H,P,M⟩
   .have A:=Hd (show fd r.p nm=(r.p,101) by unfold fd;rw [VV F,VV (by rw [D];decide),Vz H]);clear F D E H;go_enter func17,ntmps17;go_wp2_with fail;refine G.mono ?_;rintro e w' ⟨rfl,rfl⟩;go_wp2_with fail;refine J.mono ?_;rintro e w'' ⟨rfl,rfl⟩;go_wp2_with fail;go_ret;exact ⟨by rw [A.out];first|rfl|simp,by rw [A.out];exact yC.refl h rfl⟩
   .by_cases hfull:64<=r.fs.length
    .have A:=Hd (show fd r.p nm=(r.p,100) by unfold fd;rw [VV F,VV (by rw [D];decide),VV (by rw [H];decide),Vz (by rw [I];exact hfull)]);have t0:decide ((64:Int)<=(r.fs.length:Int))=true:=soA;clear F D E H M I;go_enter func17,ntmps17;go_wp2_with fail;refine G.mono ?_;rintro e w' ⟨rfl,rfl⟩;go_wp2_with fail;refine J.mono ?_;rintro e w'' ⟨rfl,rfl⟩;go_wp2_with fail;go_ret;exact ⟨by rw [A.out];first|rfl|simp,by rw [A.out];exact yC.refl h rfl⟩
    .have A:=Hd (show fd r.p nm=({r.p with fs:=r.p.fs++ [⟨nm,[],0⟩]},0) by unfold fd;rw [VV F,VV (by rw [D];decide),VV (by rw [H];decide),VV (by rw [I];exact hfull)]);have N:=Fu w B r ⟨nm,none,0,[],0⟩ h O (Own.nil _ _ _ _) (Mj h.ok M D (VU _) (Vt _) oA);have t0:decide ((64:Int)<=(r.fs.length:Int))=false:=soA;clear F D E H M I;go_enter func17,ntmps17;go_wp2_with fail;refine G.mono ?_;rintro e w' ⟨rfl,rfl⟩;go_wp2_with fail;refine J.mono ?_;rintro e w'' ⟨rfl,rfl⟩;go_wp2_with fail;refine N.mono ?_;rintro e w1 ⟨rfl,R⟩;go_wp2_with fail;go_ret;refine ⟨by rw [A.out];first|rfl|simp,?_⟩;rw [A.out];obtain ⟨S,T,U,V⟩:=rm.step (cj.refl h) R (fun X W=>by cases W);exact ⟨S,U,T,V⟩
theorem qQ:∀{ys:List ct} {f:ct},f∈ys->(ys.map (·.nm)).Nodup->(f::ys.filter fun g=>decide (g.nm≠f.nm)).Perm ys
 |x::l,f,hf,hn=>by
  simp only [WG,XR] at hn;rcases Vk.1 hf with rfl|A
  .rw [List.filter_cons_of_neg skA,List.filter_eq_self.2];intro g D;refine VK fun e=>hn.1 ?_;rw [<-e];exact WY (f:=fun x:ct=>x.nm) D
  .have hx:¬x.nm=f.nm:=fun e=>hn.1 (by rw [e];exact WY (f:=fun x:ct=>x.nm) A);rw [List.filter_cons_of_pos (by simpa using hx)];exact (List.Perm.swap _ _ _).trans ((qQ A hn.2).cons x)
end
section
open Go.RowKit Go.Maps Go.Shelf
theorem But.turned {w w':As} {b:Nat} (h:w.mapTurned w' b):But b w w':=⟨h.grown.size,fun x hx A=>h.grown.block x hx (by simpa using A)⟩
end
section
open Go.RowKit Go.Maps
theorem GM {w1 D:As} {B:Nat} {r:aG} {f:ct} (h:aK w1 B r) (M:∀g∈r.fs,g.nm≠f.nm) (N:dm f.nm=true) (j:r.fs.length<64) (S:jX w1 B f) (O:∀g∈r.fs,g.blk≠f.blk/\∀x,bI g.a g.c=some x->bI f.a f.c≠some x)
  (T:f.sure<=f.b.length) (I:f.b.length<=fE) (U:iV D prog 9 Rp r.m (r.fs.map gx++ [gx f])) (V:w1.mapTurned D r.m):aK D B {r with fs:=r.fs++ [f]}:=by
 have A:=V.grown;have F:∀x,x≠r.m->x<w1.heap.size->D.heap[x]? =w1.heap[x]? :=fun x W E=>A.block x E (fun e=>W (by simpa using e));have J:∀g,jX w1 B g->jX D B g:=fun g A=>A.keep (F _ (h.ne_map A.blk) A.blk.lt) (fun x hx=>by
  obtain ⟨_,E,P,G⟩:=A.row.lt hx;exact F x (h.ne_map G) E)
 have L:∀g∈r.fs++ [f],g∈r.fs\/g=f:=fun g A=>(by simpa using A);refine ⟨h.ged,h.gem,(F _ (h.ne_map h.blk) h.blk.lt).trans h.blk,by rw [VF];exact U,fun g A=> ?_,?_,?_,?_⟩
 .rcases L g A with A|rfl
  .exact J g (h.files g A)
  .exact J _ S
 .rw [Yj];refine ⟨h.apart,List.pairwise_singleton _ _,fun g A q X=> ?_⟩;obtain rfl:=VS.1 X;exact O g A
 .refine h.plan.keepAt fun x hx=> ?_;obtain ⟨_,E,P,G⟩:=h.plan.block_lt hx;exact F _ (h.ne_map G) E
 .have hp:aG.p {r with fs:=r.fs++ [f]}={r.p with fs:=r.p.fs++ [f.p]}:=(by simp [aG.p]);rw [hp];have H:∀g∈r.p.fs++ [f.p],g∈r.p.fs\/g=f.p:=fun g A=>(by simpa using A);refine ⟨?_,fun g A=> ?_,fun g A=> ?_,fun g A=> ?_,?_,h.ok.left⟩
  .show ((r.p.fs++ [f.p]).map (·.name)).Nodup;rw [VF,XQ];refine ⟨h.ok.names,skA,?_⟩;intro a Y b I e;obtain rfl:b=f.nm:=(by simpa [ct.p] using I);obtain ⟨g,A,Z⟩:=VH.1 Y;obtain ⟨d,R,rfl⟩:=VH.1 A;exact M d R (Z.trans e)
  .rcases H g A with A|rfl
   .exact h.ok.named g A
   .exact N
  .rcases H g A with A|rfl
   .exact h.ok.sure g A
   .exact T
  .rcases H g A with A|rfl
   .exact h.ok.size g A
   .exact I
  .show (r.p.fs++ [f.p]).length<=64;have:r.p.fs.length=r.fs.length:=(by simp [aG.p]);simp;omega
structure II (w:As) (r:aG) (d0 it:Nat) (ys done:List ct) (q:aG) (wr:As):Prop where
 sub:∀y∈ys,y∈r.fs
 nd:(ys.map (·.nm)).Nodup
 perm:(done++ys).Perm r.fs
 ran:wW wr prog 9 Rp r.m it (r.fs.map gx) (ys.map gx)
 disk:aK wr w.heap.size q
 d:q.d=d0
 p:Hid (q.p={r.p with fs:=done.map ct.p})
 off:∀x,fp q x->x≠it
 it:w.heap.size<=it
 below:Below w.heap.size w wr
theorem Ee (w:As) (B:Nat) (r:aG) (h:aK w B r) (D6:r.plan.length*24<=140737488355328):
  Calls prog 46 #[.pointer (some ⟨r.d,0,none⟩)] w fun e w'=>∃r',e= .returned (.pointer (some ⟨r'.d,0,none⟩))/\IG r'.p r.p/\aK w' w.heap.size r'/\Below w.heap.size w w':=by
 have hb:=h.blk.rule;unfold iI at hb;have hz:r.d<w.heap.size:=h.blk.lt;go_enter func46,ntmps46;go_wp2_with fail;refine (ui w).mono ?_;rintro e w1 ⟨A,rfl,B6,J,S⟩;have D7:=Hd B6.out;clear B6;have E:=h.old S;have B7:=E.blk;unfold iI at B7;have B9:=J.blk;unfold iI at B9;have F1:w.heap.size<=A.d:=J.ged;have D8:r.d≠A.d:=oA;clear hb;go_upto_region 4 with fail;have lS:∀W,But A.d w1.drew W->∀i,W.cell? ⟨r.d,i,none⟩=(iI r)[i]? :=fun W G i=>(Blk.but (w:=w1.drew) E.blk G D8).rule i;have l1:∀W,But A.d w1.drew W->W.cell? ⟨r.d,1,none⟩=some (.bool r.down):=fun W G=>lS W G 1;have l2:∀W,But A.d w1.drew W->W.cell? ⟨r.d,2,none⟩=some (.bool r.armed):=fun W G=>lS W G 2;have l3:∀W,But A.d w1.drew W->W.cell? ⟨r.d,3,none⟩=some (.int .i64 r.left):=fun W G=>lS W G 3;have l4:∀W,But A.d w1.drew W->W.cell? ⟨r.d,4,none⟩=some (.slice r.pa r.plan.length r.pc):=fun W G=>lS W G 4;clear lS;refine cO (A.d) (.step 0 (.step 1 (.step 2 (.step 3 (.step 4 (.step 5 (.step 6 (.step 7 (.step 8 (.step 9 (.step 10 (.step 11 (.step 12 (.step 13 (.step 14 (.step 15 (.step 16 (.step 17 (.step 18 (.step 19 (.step 20 (.step 21 (.step 22 (.step 23 (.step 24 (.step 25 (.step 26 (.step 27 (.step 28 (.step 29 (.step 30 (.step 31 (.step 32 .done))))))))))))))))))))))))))))))))) krA krA cdA ?_
 repeat refine txA ?_
 refine am rfl rfl rfA (fun K D=> ?_);go_wp2_with fail;refine (sL r.pa r.plan.length r.pc r.plan w1.drew (E.plan.row.keepAt fun _ _=>rfl) rfl D6).mono ?_;rintro e T ⟨pa,pc,rfl,A3,A7⟩;go_wp2_with fail;refine D _ _ (But.of A7) ?_;clear D K l1 l2 l3 l4;have X:Below w1.heap.size w1 T:=aa (VW _ _).drew A7;have j:=J.blk.old X;have D9:=j.free;have CK:=j.rule;unfold iI at CK
 repeat refine txA ?_
 refine am rfl rfl rfA (fun K D=> ?_);go_wp2_with fail;refine D _ _ (But.setCell _ _ _) ?_;clear D K
 repeat refine txA ?_
 refine am rfl rfl rfA (fun K D=> ?_);go_wp2_with fail;refine D _ _ (But.setCell _ _ _) ?_;clear D K
 repeat refine txA ?_
 refine am rfl rfl rfA (fun K D=> ?_);go_wp2_with fail;refine D _ _ (But.setCell _ _ _) ?_;clear D K
 repeat refine txA ?_
 refine am rfl rfl rfA (fun K D=> ?_);go_wp2_with fail;refine D _ _ (But.setCell _ _ _) ?_;clear D K;refine aq ?_;have o:=J.old X;have A0:A.fs=[]:=by
  have:=WS aN.fs D7.out;exact List.map_eq_nil_iff.1 this
 go_upto_region 5 with fail;refine ag (fun W=>Blk W A.d (iI {A with down:=r.down,armed:=r.armed,left:=r.left,pa:=pa,pc:=pc,plan:=r.plan}) 85/\But A.d T W/\aJ (fun x=>x=A.d) T W) ⟨?_,?_,?_⟩ ?_
 .have:=(((j.set 1 (.bool r.down)).set 2 (.bool r.armed)).set 3 (.int .i64 r.left)).set 4 (.slice pa r.plan.length pc);unfold iI at this⊢;simpa using this
 .exact ((((But.setCell _ _ _).trans (But.setCell _ _ _)).trans (But.setCell _ _ _)).trans (But.setCell _ _ _))
 .exact ((((aJ.refl (fun x=>x=A.d) T).setCell (x:=⟨A.d,1,none⟩) (.inl rfl) _).setCell (x:=⟨A.d,2,none⟩) (.inl rfl) _).setCell (x:=⟨A.d,3,none⟩) (.inl rfl) _).setCell (x:=⟨A.d,4,none⟩) (.inl rfl) _
 rintro w3 ⟨CW,D0,A8⟩;have h3:aK w3 w.heap.size {A with down:=r.down,armed:=r.armed,left:=r.left,pa:=pa,pc:=pc,plan:=r.plan}:=by
  have N:∀x,x≠A.d->x<T.heap.size->w3.heap[x]? =T.heap[x]? :=fun x hx hl=>A8.block x hl hx;refine ⟨J.ged,J.gem,CW,o.map.keep (N _ (Vl (o.ne_map o.blk)) o.map.lt),fun f P=> ?_,?_,?_,?_⟩
  .rw [show aG.fs {A with down:=r.down,armed:=r.armed,left:=r.left,pa:=pa,pc:=pc,plan:=r.plan}=[] from A0] at P;cases P
  .show A.fs.Pairwise _;rw [A0];exact List.Pairwise.nil
  .show Own w3 w.heap.size 130 2 pa r.plan.length pc (r.plan.flatMap dH);refine (A3.lower S.size).keepAt fun x hx=> ?_;obtain ⟨_,_,_,hc⟩:=A3.block_lt hx;exact N _ (Blk.ne hc j dcA) hc.lt
  .have e:aG.p {A with down:=r.down,armed:=r.armed,left:=r.left,pa:=pa,pc:=pc,plan:=r.plan}={r.p with fs:=[]}:=(by simp [aG.p,A0]);rw [e];exact h.ok.sub (List.nil_sublist _)
 have Y:Below w.heap.size w w3:=(S.trans (X.mono S.size)).trans (A8.below (fun k N=>by subst N;exact J.ged) (Vd S.size X.size));clear CW D0 A8 j D9 CK A3 A7 X o B9 B7 E J S;have A9:=h.old Y;have C0:=A9.blk.rule;unfold iI at C0;go_wp2_with (at_range;refine ku rfl _ _ rfl JW underlying83 rfl A9.map ?_;intro w4 C1 Z D3);go_frame;have C2:=h.names;have A5:Below w3.heap.size w3 w4:=⟨Z.os,Z.tape,Z.output,oA,fun k N=>Z.block k N skA⟩;have C3:II w r A.d w3.heap.size r.fs [] {A with down:=r.down,armed:=r.armed,left:=r.left,pa:=pa,pc:=pc,plan:=r.plan} w4:=⟨fun _ hy=>hy,C2,skA,C1,h3.old A5,rfl,Hd (by simp [aG.p,A0]),fun x hx=>Nat.ne_of_lt (h3.lt hx).2,Y.size,Y.trans (A5.mono Y.size)⟩;obtain ⟨it,EE⟩:=At w3.heap.size;have F2:=Hd EE;clear h3 A9 C0 Y C1 Z D3 A5;go_loopw [4,5] (fun _ _ wr=>∃ys done q,II w r A.d w3.heap.size ys done q wr) (fun _ _ wr=>wr.rangeLeft r.m w3.heap.size)
 case atStart=>exact ⟨r.fs,[],_,C3⟩
 case round=>
  clear C3;obtain ⟨ys,done,q,H⟩:=hrel;go_wp2_with (at_next;refine kv rfl _ rfl rfl H.ran ?_ ?_)
  .intro J;subst J;have hp:done.Perm r.fs:=(by have:=H.perm;rwa [WO] at this);go_wp2_with fail;go_ret;refine ⟨q,by rw [H.d];rfl,?_,H.disk,H.below⟩;rw [H.p.out];exact ⟨hp.map ct.p,rfl,rfl,rfl,rfl⟩
  .intro f P w5 hgr5 hlt5 hgb5 hsz5 hen;have HG:=Hd hgr5;have HL:=Hd hlt5;have E9:w3.heap.size<wr.heap.size:=H.ran.lt;have F0:=H.it;have C4:∀x,x≠w3.heap.size->x<wr.heap.size->w5.heap[x]? =wr.heap[x]? :=fun x E R=>hgb5.block x R (by simpa using E);have M:aK w5 w.heap.size q:=H.disk.keep fun x hx=>C4 x (H.off x hx) (H.disk.lt hx).2;have O:Below w.heap.size w w5:=H.below.trans ⟨hgb5.os,hgb5.tape,hgb5.output,oA,fun k N=>C4 k oA oA⟩;have A1:=H.sub f P;have BY:=h.files f A1;have C5:jX w5 B f:=BY.keep (O.block _ BY.blk.lt) (fun x hx=>O.block _ (BY.row.lt hx).2.1);have B0:=C5.blk;have EQ:f.b.length<=1048576:=h.ok.size f.p (VH.2 ⟨_,A1,rfl⟩);have E0:f.sure<=f.b.length:=h.ok.sure f.p (VH.2 ⟨_,A1,rfl⟩);have C6:dm f.nm=true:=h.ok.named f.p (VH.2 ⟨_,A1,rfl⟩);have F3:f.nm.size<=40:=(by have:=C6;unfold dm at this;simp at this;exact this.2);have B1:=M.blk;unfold iI at B1;rw [H.d] at B1;have B4:f.blk≠q.m:=M.ne_map B0;have D4:A.d≠q.m:=(by have:=M.ne_map M.blk;rw [H.d] at this;exact this);clear hgr5 hlt5;go_wp2_with fail;have m0:∀W,But q.m w5.drew W->W.cell? ⟨A.d,0,none⟩=some (.map (some q.m)):=fun W G=>(Blk.but (w:=w5.drew) B1 G D4).rule 0;have m1:∀W,But q.m w5.drew W->W.cell? ⟨f.blk,0,none⟩=some (.slice f.a f.b.length f.c):=fun W G=>(Blk.but (w:=w5.drew) B0 G B4).rule 0;have m2:∀W,But q.m w5.drew W->W.cell? ⟨f.blk,1,none⟩=some (.int .i64 (f.sure:Int)):=fun W G=>(Blk.but (w:=w5.drew) B0 G B4).rule 1;refine cO (q.m) (.step 0 (.step 1 (.step 2 (.step 3 (.step 4 (.step 5 (.step 6 (.step 7 (.step 8 (.step 10 (.step 11 (.step 12 (.step 13 (.step 9 (.step 14 (.step 15 (.step 16 .done))))))))))))))))) krA krA cdA ?_
   repeat refine txA ?_
   refine am rfl rfl rfA (fun K D=> ?_);go_wp2_with fail;refine (jU f.a f.b.length f.c f.b w5.drew (C5.row.read.keepAt fun _ _=>rfl) rfl oA).mono ?_;rintro e I ⟨U,V,rfl,A4,C7⟩;go_wp2_with fail;refine D _ _ (But.of C7) ?_;clear D K m0 m1 m2;have L:Below w5.heap.size w5 I:=aa (VW _ _).drew C7;have E1:=M.old L;have C8:q.p.fs=done.map ct.p:=(by rw [H.p.out]);have B5:∀g∈q.fs,g.nm≠f.nm:=by
    intro g F e;have E:g.p∈done.map ct.p:=(by rw [<-C8];exact VH.2 ⟨g,F,rfl⟩);obtain ⟨g2,E2,e2⟩:=VH.1 E;have e3:g2.nm=f.nm:=by
     have:g2.p.name=g.p.name:=(by rw [e2]);exact this.trans e
    have C9:((done++ys).map (·.nm)).Nodup:=(H.perm.map _).nodup_iff.2 C2;rw [VF,XQ] at C9;exact C9.2.2 g2.nm (VH.2 ⟨g2,E2,rfl⟩) f.nm (VH.2 ⟨f,P,rfl⟩) e3
   have E3:q.fs.length=done.length:=(by have:=WS List.length C8;simpa [aG.p] using this);have E4:done.length<64:=by
    have E:=H.perm.length_eq;have R:r.fs.length<=64:=(by have:=h.ok.count;simpa [aG.p] using this);have h3:0<ys.length:=Ym P;rw [laA] at E;omega
   obtain ⟨w7,t⟩:=At (I.alloc (.cells #[.slice U f.b.length V,.int .i64 (f.sure:Int)] 112));have A6:Below I.heap.size I w7:=(by rw [t];exact (VW _ _).alloc (VU _) _);have DO:=E1.old A6;obtain ⟨w8,D5,E5,A2⟩:=DO.map.add JW underlying83 (by unfold maxLen;rw [lmA];omega) (XG underlying9 (s:=f.nm) mxA) (NG I.heap.size) (by
    rw [nY];intro hm;obtain ⟨g,F,e⟩:=VH.1 hm;exact B5 g F (lg e))
   have D1:=D5;rw [t] at D1
   repeat refine txA ?_
   refine am rfl rfl rfA (fun K D=> ?_);go_wp2_with fail;refine D _ _ (But.of ((VW _ _).alloc (VU _) _)) ?_;clear D K
   repeat refine txA ?_
   refine am rfl rfl rfA (fun K D=> ?_);go_wp2_with fail;have B2:But q.m I w8:=(But.of A6).trans (But.turned A2);refine D _ _ (by rw [<-t];exact But.turned A2) ?_;clear D K;refine aq ?_;go_wp2_with fail;have D2:jX w7 w.heap.size ⟨f.nm,I.heap.size,U,V,f.b,f.sure⟩:=by
    refine ⟨by rw [t];exact Blk.new _ _ _,by have E:=O.size;have R:=L.size;show _<=I.heap.size;omega,?_⟩;rw [t];refine ((Mid.of A4).alloc _).lower ?_;have E:=O.size;show w.heap.size<=w5.heap.size;exact E
   have B3:∀x,fp q x->x<w5.heap.size:=fun x hx=>(M.lt hx).2;have E6:∀g∈q.fs,g.blk≠I.heap.size/\∀x,bI g.a g.c=some x->bI U V≠some x:=by
    intro g F;have E:=B3 _ (.inr (.inr (.inl ⟨g,F,.inl rfl⟩)));have R:=L.size;refine ⟨oA,fun x hx e=> ?_⟩;have h3:=B3 _ (.inr (.inr (.inl ⟨g,F,.inr hx⟩)));have h4:=((Mid.of A4).lt e).1;have h5:w5.drew.heap.size=w5.heap.size:=rfl;omega
   have E7:=GM (f:=⟨f.nm,I.heap.size,U,V,f.b,f.sure⟩) DO B5 C6 (by rw [E3];exact E4) D2 E6 E0 EQ E5 A2;have E8:Below w.heap.size w w8:=by
    have E:=O.trans (L.mono O.size);have R:=E.trans (A6.mono E.size);have F:=A2.grown;exact R.trans ⟨F.os,F.tape,F.output,F.size,fun k N=>F.block k (by have:=R.size;omega) (by
     have:=M.gem;simp only [Vu,ne_eq] at*;omega)⟩
   have e1:w8.heap[r.m]? =w5.heap[r.m]? :=by
    have J:=h.map.lt;have:=M.gem;have E:=O.size;rw [(B2.block r.m (by have:=L.size;omega) oA),L.block _ oA]
   have e2:w8.heap[w3.heap.size]? =w5.heap[w3.heap.size]? :=by
    have E:=H.off q.m (.inr (.inl rfl));rw [(B2.block w3.heap.size (by have:=L.size;omega) (Vl E)),L.block _ oA]
   have e3:w8.rangeLeft r.m w3.heap.size=w5.rangeLeft r.m w3.heap.size:=(by simp only [World.rangeLeft,e1,e2]);have HP:=H.p;refine ⟨⟨ys.filter fun g=>decide (g.nm≠f.nm),done++ [f],{q with fs:=q.fs++ [⟨f.nm,I.heap.size,U,V,f.b,f.sure⟩]},fun y hy=>H.sub y (Vy.1 hy).1,(List.Sublist.map _ List.filter_sublist).nodup H.nd,?_,?_,E7,H.d,Hd ?_,?_,H.it,E8⟩,by rw [e3];exact HL.out⟩
   .rw [Vf];exact ((qQ P H.nd).append_left done).trans H.perm
   .have:=HG.out.keep e1 e2;simpa only [ne_eq,decide_not] using this
   .have e:aG.p {q with fs:=q.fs++ [⟨f.nm,I.heap.size,U,V,f.b,f.sure⟩]}={q.p with fs:=q.p.fs++ [f.p]}:=(by simp [aG.p,ct.p]);rw [e,HP.out];simp
   .rintro x (hx|hx|⟨g,F,hx⟩|hx)
    .exact H.off x (.inl hx)
    .exact H.off x (.inr (.inl hx))
    .rcases Ve.1 F with F|F
     .exact H.off x (.inr (.inr (.inl ⟨g,F,hx⟩)))
     .obtain rfl:=VS.1 F;rcases hx with hx|hx
      .have:=L.size;show x≠w3.heap.size;have F4:x=I.heap.size:=hx;omega
      .have h4:=((Mid.of A4).lt hx).1;have h5:w5.drew.heap.size=w5.heap.size:=rfl;show x≠w3.heap.size;omega
    .exact H.off x (.inr (.inr (.inr hx)))
end
section
open Go.RowKit Go.Maps
theorem Own.ofBlk {w:As} {B g:Nat} {e:TypeId} {vs:AT} (h:Blk w g vs.toArray e) (A:B<=g) (D:vs.length<=maxLen):Own w B e 1 (some ⟨g,0,none⟩) vs.length vs.length vs:=
 ⟨by rw [Vr],.inr ⟨g,vs.length,_,rfl,A,h,VU _,D,skA,skA⟩⟩
theorem ax.ofBlk {w:As} {B g n:Nat} {l:List Int} (h:Blk w g (l.map (Value.int .i64)).toArray 3) (D:B<=g) (E:n=l.length) (G:l.length<=1000000) (F:∀x∈l,ff x):ax w B ⟨some ⟨g,0,none⟩,n,n⟩ l:=by
 have A:=Own.ofBlk h D (by rw [lmA];unfold maxLen;omega);rw [lmA] at A;subst E;exact ⟨A,A.row,rfl,VU _,by show l.length<=maxLen;unfold maxLen;omega,by show l.length<=_;omega,F⟩
theorem Ah (w:As):Calls prog 45 #[.int .i64 0] w fun e w'=>∃hx,e= .returned (dG wL hx)/\be w' w.heap.size wL hx/\Below w.heap.size w w':=by
 go_enter func45,ntmps45;go_upto_region 1 with fail;obtain ⟨X,D⟩:=At w.heap.size;rw [<-D];refine ag (fun W=>Blk W X cM 40/\Below X w W/\W.heap.size=X+1) ⟨by rw [D];exact Blk.new _ _ _,by rw [D];exact cL,by rw [D];simp⟩ ?_;rintro A ⟨H,R,G⟩;have E:=Hd D;have M:=Hd G;clear D G;go_wp2_with (refine fh rfl 40 aZ (.tmp 2) (.tmp 9) rfl rfl rfl (((H.alloc _).alloc _).alloc _) rfl dcA rfl ?_);obtain ⟨N,O⟩:=At A.heap.size;have b0:=Blk.new3 A #[.int .i64 1,.int .i64 2] 3 (.cells #[.int .i64 3] 3) (.cells #[.int .i64 5] 3);have I:=Blk.new3' A #[.int .i64 3] 3 (.cells #[.int .i64 1,.int .i64 2] 3) (.cells #[.int .i64 5] 3);have b2:=Blk.new3'' A #[.int .i64 5] 3 (.cells #[.int .i64 1,.int .i64 2] 3) (.cells #[.int .i64 3] 3);have P:=M.out;rw [<-O] at b0 I b2 P⊢;have S:w.heap.size<=X:=VM E.out.symm;have J:Below X w (((A.alloc (.cells #[.int .i64 1,.int .i64 2] 3)).alloc (.cells #[.int .i64 3] 3)).alloc (.cells #[.int .i64 5] 3)):=(by have:=E.out;exact cL);have L:Blk (((A.alloc (.cells #[.int .i64 1,.int .i64 2] 3)).alloc (.cells #[.int .i64 3] 3)).alloc (.cells #[.int .i64 5] 3)) X cM 40:=((H.alloc _).alloc _).alloc _;generalize (((A.alloc (.cells #[.int .i64 1,.int .i64 2] 3)).alloc (.cells #[.int .i64 3] 3)).alloc (.cells #[.int .i64 5] 3))=T at*;have F:∀l:List Int,(∀x∈l,0<=x/\x<=1000)->∀x∈l,ff x:=fun l h x hx=>by
  have:=h x hx;obtain ⟨n,rfl⟩:∃n:Nat,x=(n:Int):=⟨x.toNat,oA⟩;exact gZ oA
 refine cT (g:=X) rfl aZ rfl (L.setRow _) rfl rfl ⟨⟨⟨some ⟨N,0,none⟩,2,2⟩,⟨some ⟨N+1,0,none⟩,1,1⟩,⟨some ⟨N+2,0,none⟩,1,1⟩,lR⟩,rfl,?_,?_⟩
 .exact ⟨oy.kind,oy.game,oy.table,oy.fmt,oy.n0,oy.n1,ax.ofBlk (l:=[1,2]) (b0.setRow_other _ _ oA) oA rfl dcA (F _ dcA),ax.ofBlk (l:=[3]) (I.setRow_other _ _ oA) oA rfl dcA (F _ dcA),ax.ofBlk (l:=[5]) (b2.setRow_other _ _ oA) oA rfl dcA (F _ dcA),rfl,rfl,rfl,rfl,ax.nil _ _,aQ.nil _ _⟩
 .rw [<-E.out];exact ak J (VU _) _
theorem EZ (m:Le):kA wk0 nmJ m=0/\rD wk0 nmJ m=iO nmJ [] 0/\oJ wk0 nmJ m=[]/\pQ wk0 nmJ m=0/\rC wk0 nmJ m=[]:=Df okJ m
def KV (w:As) (B d v:Nat) (m:Le) (l:List ao) (ls:List Le):Prop:=
 ∃r V,VL w B r V/\r.d=d/\V.v=v/\r.p=iO nmJ (aA ls) (aA ls).length/\V.m=m/\V.l=l/\V.R.ls=ls/\V.R.nm=nmJ/\V.down=false
theorem MG (w:As) (B:Nat) (r:aG) (h:aK w B r) (H:B<=w.heap.size) (T:r.p=wk0) (A:Lt) (D I:Nat) (m:Le) (L:aj w A m) (M:m.length=D) (N:D<=1000000) (O:m≠ []->∀J,A=some J->¬fp r J.block):
  Calls prog 11 #[.pointer (some ⟨r.d,0,none⟩),.string nmJ,.slice A D I] w fun e w'=>∃v,e= .returned (.tuple #[.pointer (some ⟨v,0,none⟩),.int .i64 0,.int .i64 0])/\KV w' B r.d v m [] []/\Below B w w':=by
 refine (mI w B r nmJ h H dcA A D I m L M N O).mono ?_;rintro e w' ⟨U,F,G,E⟩;obtain ⟨k1,k2,k3,k4,k5⟩:=EZ m;rw [T] at F E;rcases E with ⟨W,_⟩|⟨_,V,rfl,X,Y,Z,P,R,S,_⟩
 .exact absurd k1 W
 .exact ⟨V.v,by rw [k4];rfl,⟨U,V,X,G.d,rfl,by rw [F,k2];rfl,Y,by rw [Z,k3],by rw [P,k5],R,S⟩,G.below h H⟩
theorem kput {w0 w:As} {B d v:Nat} {m:Le} {l:List ao} {ls:List Le} (h:KV w0 B d v m l ls) (J:Below w0.heap.size w0 w) (P:B<=w0.heap.size) {x:ao} {hx:aY} (N:be w w0.heap.size x hx)
  (S:iE x=true) (T:bz l x=true) (U:(bj x).length<=65000) (X:ls.length<4096) (Y:(aA ls).length+(bj x).length+48<=1048576) (Z:(bZ x.act).length<100000000000):
  Calls prog 13 #[.pointer (some ⟨v,0,none⟩),dG x hx] w fun e w'=>e= .returned (.int .i64 0)/\KV w' B d v m (l++ [x]) (ls++ [gO m l x])/\Below B w w':=by
 obtain ⟨r,V,h,rfl,rfl,c,rfl,rfl,rfl,G,O⟩:=h;have L:=h.old J;have H:B<=w.heap.size:=Vd P J.size;refine (tm w B r V L H x hx (fun W f=>(N.turn f fun y g=>(h.lt g).2).at) Z).mono ?_;rintro e w' ⟨j,V',rfl,A,I,D,E,M,F⟩;obtain ⟨k1,k2,k3,k4⟩:=Jw (b:=aA V.R.ls) (s:=(aA V.R.ls).length) G O S T U X Y;rw [c] at I D E F⊢;rw [k1,Vz rfl] at D;rw [k1];exact ⟨rfl,⟨j,V',A.at',A.d,A.v,by rw [I,k2,ow],A.m,D,by rw [E,k3],M.trans G,by rw [F,k4]⟩,A.below L H⟩
theorem kbad {w:As} {B d v:Nat} {m:Le} {l:List ao} {ls:List Le} (h:KV w B d v m l ls) (G:B<=w.heap.size) {x:ao} {hx:aY} (L:be w w.heap.size x hx)
  (P:(iE x&&bz l x)=false) (S:(bZ x.act).length<100000000000):
  Calls prog 13 #[.pointer (some ⟨v,0,none⟩),dG x hx] w fun e w'=>e= .returned (.int .i64 2)/\KV w' B d v m l ls/\Below B w w':=by
 obtain ⟨r,V,h,rfl,rfl,T,rfl,rfl,rfl,M,N⟩:=h;refine (tm w B r V h G x hx (fun W U=>(L.turn U fun y X=>(h.lt X).2).at) S).mono ?_;rintro e w' ⟨Y,V',rfl,A,O,F,H,I,J⟩;have D:jp V x=false:=P;have E:¬V.down=true:=(by rw [N];simp);have k1:kG r.p V x=2:=(by unfold kG;rw [VV E,Vz D]);have k2:qs r.p V x=r.p:=(by unfold qs;rw [VV E,Vz D]);have k3:jA r.p V x=V.R.ls:=(by unfold jA;rw [VV E,Vz D]);have k4:jB r.p V x=false:=(by unfold jB;rw [VV E,Vz D]);rw [k1,VV dcA] at F;rw [k1];exact ⟨rfl,⟨Y,V',A.at',A.d,A.v,by rw [O,k2,T],A.m,F,by rw [H,k3],I.trans M,by rw [J,k4]⟩,A.below h G⟩
theorem MH (w:As) (B:Nat) (r:aG) (h:aK w B r) (O:B<=w.heap.size) (A:Lt) (D E:Nat) (m:Le) (P:kA r.p nmJ m=0) (H:aj w A m) (I:m.length=D) (J:D<=1000000) (L:m≠ []->∀F,A=some F->¬fp r F.block):
  Calls prog 11 #[.pointer (some ⟨r.d,0,none⟩),.string nmJ,.slice A D E] w fun e w'=>∃d V,e= .returned (.tuple #[.pointer (some ⟨V.v,0,none⟩),.int .i64 (pQ r.p nmJ m:Int),.int .i64 0])/\V.l=oJ r.p nmJ m/\aP w' B d V/\(∀x,dP V.R x\/ej V x->w.heap.size<=x)/\aJ (fp r) w w':=by
 refine (mI w B r nmJ h O dcA A D E m H I J L).mono ?_;rintro e w' ⟨c,W,M,G⟩;rcases G with ⟨S,_⟩|⟨_,V,rfl,T,f,U,X,Y,Z,N⟩
 .exact absurd P S
 .exact ⟨_,V,rfl,U,T.vault,N,M.turn⟩
theorem vf (w:As) (o:Obj):(w.alloc o).heap.size=w.heap.size+1:=skA
theorem JP {p:aN} (h:IG p wkD):p=wkD:=by
 have G:=h.fs;obtain ⟨fs,a,b,c,d⟩:=p;have e:fs=wkD.fs:=List.perm_singleton.1 G;obtain ⟨A,D,E,F⟩:=h.rest;have A:a=wkD.down:=A;have D:b=wkD.armed:=D;have E:c=wkD.left:=E;have F:d=wkD.plan:=F;subst e A D E F;rfl
theorem KN (w:As) (B:Nat):be w B KO dN:=
 ⟨by unfold wf8;decide,by unfold ff;decide,rfl,Vt _,Vt _,Vt _,ax.nil _ _,ax.nil _ _,ax.nil _ _,⟨rfl,rfl,rfl,rfl,ax.nil _ _,aQ.nil _ _⟩⟩
theorem Kk (w:As) (B:Nat):be w B AY dN:=
 ⟨by unfold wf8;decide,by unfold ff;decide,rfl,Vt _,Vt _,Vt _,ax.nil _ _,ax.nil _ _,ax.nil _ _,⟨by unfold wf8;decide,rfl,rfl,rfl,ax.nil _ _,aQ.nil _ _⟩⟩
theorem lw (w:As):Calls prog 9 #[] w fun e w'=>e= .returned (.bool true)/\Below w.heap.size w w':=by
 have kc:=fun (w:As) (C:AS) (n c:Nat)=>Lib.run_convert_bytes_const (P:=prog) w 22 5 C n c underlying22 underlying5;go_enter func9,ntmps9;go_wp2_with fail;refine (ui w).mono ?_;rintro e w1 ⟨r1,rfl,C9,M,N⟩;have DO:=Hd C9.out;clear C9;have A3:=N.size;obtain ⟨B,A⟩:=At w.heap.size;rw [<-A] at M N A3;go_wp2_with fail;refine (MG _ B r1 (M.old ((VW _ _).alloc (VU _) _)) soA DO.out _ 6 6 fT (aj.new w1 #[.int .u8 109,.int .u8 97,.int .u8 115,.int .u8 116,.int .u8 101,.int .u8 114] 5 (6,7) fT rfl) rfl oA (fun _ Z e D=>by cases e;have:=(M.lt D).2;simp at this)).mono ?_;rintro e w2 ⟨v,rfl,D0,D1⟩;have j:Below B w w2:=(N.alloc A3 _).trans D1;have A4:B<=w2.heap.size:=Vd (VM A) j.size;generalize hd:r1.d=d at*;clear N D1 M DO A3 hd;go_wp2_with fail;refine (Ah w2).mono ?_;rintro e w3 ⟨h3,rfl,CW,O⟩;have F3:B<=w3.heap.size:=Vd A4 O.size;have C0:Below B w w3:=j.trans (O.mono A4);have A5:=kput D0 O A4 CW Dj DR (by rw [lm];decide) dcA (by rw [lm];decide) dkA;clear D0 O CW j;rw [aD] at A5⊢;go_wp2_with fail;refine A5.mono ?_;rintro e w4 ⟨rfl,D2,D3⟩;have m:Below B w w4:=C0.trans D3;have D4:B<=w4.heap.size:=Vd (VM A) m.size;clear A5 D3 C0 F3;go_wp2_with fail;have D5:=kbad (x:=KO) (hx:=dN) D2 D4 (KN _ _) (by rw [Wl,Kq,ZX]) dkA;refine D5.mono ?_;clear D5 D2;rintro e w5 ⟨rfl,D6,D7⟩;have o:Below B w w5:=m.trans D7;have D8:B<=w5.heap.size:=Vd (VM A) o.size;clear D7 m D4;go_wp2_with fail;have D9:=kput (x:=AY) (hx:=dN) D6 (VW _ _) D8 (Kk _ _) Di DQ (by have:=up;omega) dcA (by have:=up;have:=EN;simp only [Wl,aA,WG,XP,List.flatten_cons,List.flatten_nil,laA,bU,Xz];unfold L1 at this;omega) dkA;refine D9.mono ?_;clear D9 D6;rintro e w6 ⟨rfl,F4,EE⟩;have r:Below B w w6:=o.trans EE;have A6:B<=w6.heap.size:=Vd (VM A) r.size;clear EE o D8;obtain ⟨r6,V6,A7,A8,rfl,R,-⟩:=F4;have R:r6.p=wkD:=R;have EQ:=Hd R;clear R;go_wp2_with fail;have A9:=qZ w6 B r6 none 0 0 [] A7.disk A6 (av.nil _ _) rfl mxA (fun Z e=>by cases e) (fun Z e=>by cases e);rw [A8] at A9;refine A9.mono ?_
 clear A9;rintro e w7 ⟨r7,rfl,BY,I⟩;have s:Below B w w7:=r.trans (I.below A7.disk A6);have E0:B<=w7.heap.size:=Vd (VM A) s.size;have B0:=I.at';have t:=I.d.trans A8;rw [EQ.out] at BY⊢;have B1:=Hd BY;clear BY I A7 A8 EQ r A6;go_wp2_with fail;have B2:=zt w7 B r7 B0;rw [t] at B2;refine B2.mono ?_;clear B2;rintro e H ⟨rfl,r8,B3,J⟩;have y:Below B w H:=s.trans (J.below B0 E0);have F5:B<=H.heap.size:=Vd (VM A) y.size;have S:=J.at';have A0:=J.d.trans t;rw [B1.out,EY] at B3;rw [B1.out];have F:=Hd B3;clear B3 J B0 t B1 s E0;go_wp2_with fail;have B4:=Ee H B r8 S (by have:=WS aN.plan F.out;have e:r8.plan=[]:=this;rw [e];decide);rw [A0] at B4;refine B4.mono ?_;clear B4;rintro e f ⟨g,rfl,B5,T,U⟩;have E1:g.p=wkD:=JP (by rw [F.out] at B5;exact B5);have B6:=Hd E1;have A1:Below B w f:=y.trans (U.mono F5);have F6:B<=f.heap.size:=Vd (VM A) A1.size;have L:=S.old U;have F2:=U.size;clear E1 B5 U y;go_wp2_with fail;obtain ⟨k1,k2,k3⟩:=EX;have B7:=MH _ B r8 (L.old ((VW _ _).alloc (VU _) _)) soA _ 6 6 fT (by rw [F.out];exact k1) (aj.new f #[.int .u8 109,.int .u8 97,.int .u8 115,.int .u8 116,.int .u8 101,.int .u8 114] 5 (6,7) fT rfl) rfl oA (fun _ Z e D=>by cases e;have:=(L.lt D).2;simp at this);rw [A0,F.out,k2,k3] at B7;refine B7.mono ?_;clear B7 k1 k2 k3;rintro e wA ⟨dA,VA,rfl,E2,B9,CK,V⟩;have E:aK wA H.heap.size g:=by
  refine (T.old ((VW _ _).alloc (VU _) _)).turn V fun x hx D=> ?_;have q1:=(T.lt hx).1;have q2:=(S.lt D).2;omega
 have F7:=V.size;have C1:Below B w wA:=(A1.alloc F6 _).trans (V.below (fun x hx=>(L.lt hx).1) soA);have E3:=Hd E2;have E4:∀x,fp g x->x<f.heap.size:=fun x hx=>(T.lt hx).2;clear E2 V T L S F A0 A1 F2;simp only [vf] at F7 CK;go_wp2_with fail;obtain ⟨k1,k2,k3⟩:=EW;have W:=MH _ H.heap.size g (E.old ((VW _ _).alloc (VU _) _)) (by simp;have:=(E.lt (.inl rfl));omega) _ 5 5 xe (by rw [B6.out];exact k1) (aj.new wA #[.int .u8 111,.int .u8 116,.int .u8 104,.int .u8 101,.int .u8 114] 5 (5,6) xe rfl) rfl oA (fun _ Z e D=>by cases e;have:=(E.lt D).2;simp at this);rw [B6.out,k2] at W;obtain ⟨n,hn⟩:=At (pQ wkD nmJ xe);rw [<-hn] at W k3;clear hn k2 k1;refine W.mono ?_;clear W;rintro e wB ⟨dB,VB,rfl,E5,E6,F8,X⟩;have A2:aP wB B dA VA:=(B9.old ((VW _ _).alloc (VU _) _)).keep fun x hx=>X.block x (by have:=(B9.lt hx).2;simp;omega) fun D=>by
  have q1:=CK x hx;have q2:=E4 x D;omega
 have F9:=X.size;simp only [vf] at F9;have C2:Below B w wB:=(C1.alloc oA _).trans (X.below (fun x hx=>by have:=(E.lt hx).1;omega) soA);have G0:=Hd E5;clear E5 F8 X E B9 CK E4 C1 B6;go_wp2_with fail;refine (nz wB B dA VA A2).mono ?_;rintro e wC ⟨aC,cC,G1,rfl,E7,G2,G⟩;have E8:G1.length=2:=by
  have:=WS List.length E7;rw [lmA,E3.out] at this;exact this
 rw [E8];have C3:=A2.old G;have C4:=E6.old G;have C5:Below B w wC:=C2.trans (G.mono oA);have G5:=G.size;clear G2 E7 E8 G A2 E6 C2;go_wp2_with fail;refine (rS wC B dA VA C3).mono ?_;rintro e wD ⟨rfl,Y⟩;rw [E3.out,show ((aO [wL,AY]:Nat):Int)=1 by decide];have C6:=C4.old Y;have C7:Below B w wD:=C5.trans (Y.mono oA);have G6:=Y.size;have G7:(n:Int)>0:=oA;clear Y C3 C4 C5;go_wp2_with fail;refine (nz wD _ dB VB C6).mono ?_;rintro e wE ⟨aE,cE,G3,rfl,E9,G4,F0⟩;have F1:G3.length=0:=by
  have:=WS List.length E9;rw [lmA,G0.out] at this;exact this
 rw [F1];have C8:Below B w wE:=C7.trans (F0.mono oA);clear G4 E9 F1 F0 C6 C7;go_wp2_with fail;go_ret;rw [A] at C8;exact ⟨rfl,C8⟩
end
section
open Go.RowKit
def lj (x:ao):Bool:=decide (1500<x.d0.length+x.d1.length+x.dr.length+x.act.ids.length+x.act.pairs.length)||decide (1000<x.fmt.size+x.n0.size+x.n1.size)
theorem Ad (p:ao) (h:aY) (w:As) (D:dp w p h):Calls prog 12 #[dG p h] w fun e w'=>e= .returned (.bool (lj p))/\Below w.heap.size w w':=by
 have V:=D.d0.2.1;have Y:=D.d1.2.1;have Z:=D.dr.2.1;have c:=D.act.ids.2.1;have d:=D.act.pairs.2.1;have j:=D.d0.2.2.2.2.1;have m:=D.d1.2.2.2.2.1;have o:=D.dr.2.2.2.2.1;have r:=D.act.ids.2.2.2.2.1;have s:=D.act.pairs.2.2.2.2.1;have t:p.fmt.size<=140737488351232:=D.fmt;have y:p.n0.size<=140737488351232:=D.n0;have y2:p.n1.size<=140737488351232:=D.n1;have f:lj p=(decide (1500<h.d0.n+h.d1.n+h.dr.n+h.act.ids.n+h.act.pairs.n)||decide (1000<p.fmt.size+p.n0.size+p.n1.size)):=by
  unfold lj;rw [V,Y,Z,c,d]
 rw [f];clear f V Y Z c d;obtain ⟨G,O⟩:=At (h.d0.n+h.d1.n);obtain ⟨H,P⟩:=At (G+h.dr.n);obtain ⟨I,R⟩:=At (H+h.act.ids.n);obtain ⟨E,S⟩:=At (I+h.act.pairs.n);obtain ⟨J,T⟩:=At (p.fmt.size+p.n0.size);obtain ⟨L,U⟩:=At (J+p.n1.size);rw [<-O,<-P,<-R,<-S,<-T,<-U];have t1:IntKind.i64.wrap ((h.d0.n:Int)+(h.d1.n:Int))=(G:Int):=(by rw [VR];omega);have t2:IntKind.i64.wrap ((G:Int)+(h.dr.n:Int))=(H:Int):=(by rw [VR];omega);have t3:IntKind.i64.wrap ((H:Int)+(h.act.ids.n:Int))=(I:Int):=(by rw [VR];omega);have t4:IntKind.i64.wrap ((I:Int)+(h.act.pairs.n:Int))=(E:Int):=(by rw [VR];omega);have u1:IntKind.i64.wrap ((p.fmt.size:Int)+(p.n0.size:Int))=(J:Int):=(by rw [VR];omega);have u2:IntKind.i64.wrap ((J:Int)+(p.n1.size:Int))=(L:Int):=(by rw [VR];omega);clear O P R S T U j m o r s t y y2 D;rw [aD];have A0:∀x:World,Below w.heap.size w x->Below w.heap.size w x:=fun _ h=>h;go_enter func12,ntmps12;go_upto_region 1 with fail;refine ag (fun W=>Blk W w.heap.size (af p h).toArray 40/\Below w.heap.size w W) ⟨Blk.new _ _ _,cL⟩ ?_;obtain ⟨X,M⟩:=At w.heap.size;rw [<-M];have g:=Hd M;clear M;rintro W1 ⟨bX,F⟩;have A:=bX.rule;unfold af at A;by_cases N:1500<E
 .have t5:decide ((E:Int)>1500)=true:=soA;have t6:decide ((1500:Int)<(E:Int))=true:=soA;go_wp2_with fail;go_ret;rw [g.out] at F;exact ⟨by rw [VK N];rfl,F⟩
 .have t5:decide ((E:Int)>1500)=false:=soA;have t6:decide ((1500:Int)<(E:Int))=false:=soA;have HS:=Hd N;clear N;have t7:decide ((1000:Int)<(L:Int))=decide (1000<L):=(by rw [YY];omega);go_wp2_with fail;go_ret;rw [g.out] at F;exact ⟨by rw [VO HS.out,Bool.false_or];first|rfl|(rw [<-t7];rfl),F⟩
theorem ut {p:ao} (h:lj p=false):p.d0.length+p.d1.length+p.dr.length+p.act.ids.length+p.act.pairs.length<=1500/\p.fmt.size+p.n0.size+p.n1.size<=1000:=by
 unfold lj at h;simp only [ZV,YQ] at h;omega
theorem EF (p:bF):(bZ p).length=48+8*p.ids.length+16*p.pairs.length:=by
 unfold bZ;simp only [laA,an,fG,uC];omega
theorem KT {p:ao} (h:lj p=false):(bZ p.act).length<100000000000:=by
 have A:=(ut h).1;have D:=EF p.act;omega
theorem GI (p:ao):(bj p).length<=200+(bZ p.act).length+p.fmt.size+p.n0.size+p.n1.size+8*p.d0.length+8*p.d1.length+8*p.dr.length:=by
 unfold bj;split
 .simp only [laA,an,VC,Xz];omega
 .simp only [laA,an,VC,Xz,fG,eP,cJ];omega
theorem GH {p:ao} (h:lj p=false):(bj p).length<=30000:=by
 have A:=GI p;have D:=ut h;have E:=EF p.act;omega
structure DC where
 c:Nat
 a:Lt
 cap:Nat
 bs:Le
 at_:Nat
 bad:Int
def DC.to (q:DC) (k:Nat) (b:Int):DC:={q with at_:=k,bad:=b}
def gU (q:DC):AS:= #[.slice q.a q.bs.length q.cap,.int .i64 (q.at_:Int),.int .i64 q.bad]
structure DAt (w:As) (B:Nat) (q:DC):Prop where
 ge:B<=q.c
 blk:Blk w q.c (gU q) 191
 row:aj w q.a q.bs
 low:InB B q.a q.bs.length
 le:q.at_<=q.bs.length
 max:q.bs.length<=1048576
 lo: -1<=q.bad
 hi:q.bad<=1048576
section
variable {w w' w'':As} {B:Nat} {q q' q'':DC}
theorem DAt.keep (h:DAt w B q) (A:w'.heap[q.c]? =w.heap[q.c]?) (D:Below B w w'):DAt w' B q:=
 ⟨h.ge,A.trans h.blk,av.low h.row h.low (fun E=>by rw [VX E];rfl) D,h.low,h.le,h.max,h.lo,h.hi⟩
theorem DAt.old (h:DAt w B q) (A:Below w.heap.size w w') (D:B<=w.heap.size):DAt w' B q:=h.keep (A.block _ h.blk.lt) (A.mono D)
structure eH (B:Nat) (w:As) (q:DC) (w':As) (k:Nat) (b:Int):Prop where
 at':DAt w' B (q.to k b)
 turn:aJ (fun x=>x=q.c) w w'
theorem eH.trans {k k':Nat} {b b':Int} (h:eH B w q w' k b) (h':eH B w' (q.to k b) w'' k' b'):eH B w q w'' k' b':=
 ⟨h'.at',h.turn.trans h'.turn fun _ hx=> .inl hx⟩
theorem eH.refl (h:DAt w B q):eH B w q w q.at_ q.bad:=⟨h,aJ.refl _ _⟩
end
def bE {α:Type} (a0:Nat) (b0:Int) (rd:Nat->Rd α) (x:α) (k:Nat) (b:Int):Prop:=
 (0<=b0->b=b0)/\(b0<0->match rd a0 with
  | .ok y=>y.1=x/\b= -1/\k=y.2
  | .error p=>b=(p:Int))
theorem bE.seq {α β:Type} {a0 k1 k2:Nat} {b0 A b2:Int} {r:Nat->Rd α} {f:α->Nat->Rd β} {x:α} {y:β} (E:bE a0 b0 r x k1 A) (D:bE k1 A (f x) y k2 b2):bE a0 b0 (fun a=>thn (r a) f) y k2 b2:=by
 refine ⟨fun h=> ?_,fun h=> ?_⟩
 .have e:=E.1 h;rw [D.1 (by rw [e];exact h),e]
 .have e:=E.2 h;show match thn (r a0) f with| .ok y'=>_| .error p=>_
  cases F:r a0 with
  |error p=>
   rw [F] at e;have e:A=(p:Int):=e;show b2=(p:Int);rw [D.1 (by rw [e];omega),e]
  |ok z=>
   rw [F] at e;obtain ⟨H,I,J⟩:z.1=x/\A= -1/\k1=z.2:=e;have G:=D.2 (by rw [I];decide);rw [J,<-H] at G;exact G
theorem bE.ok {α:Type} {a0 k:Nat} {b0 b:Int} {rd:Nat->Rd α} {x:α} (h:b0<0->rd a0= .ok (x,k)/\b= -1) (h':0<=b0->b=b0):bE a0 b0 rd x k b:=
 ⟨h',fun A=>by rw [(h A).1];exact ⟨rfl,(h A).2,rfl⟩⟩
theorem bE.mapRd {α:Type} {a0 k:Nat} {b0 b:Int} {rd A:Nat->Rd α} {x:α} (h:bE a0 b0 rd x k b) (e:rd a0=A a0):bE a0 b0 A x k b:=
 ⟨h.1,fun D=>by rw [<-e];exact h.2 D⟩
def CO (bs:Le) (a:Nat):Rd UInt8:=match bs[a]? with
 |none=> .error bs.length
 |some y=> .ok (y,a+1)
theorem pH (w:As) (B:Nat) (q:DC) (p:Nat) (A:DAt w B q) (H:p<=1048576):
  Calls prog 153 #[.pointer (some ⟨q.c,0,none⟩),.int .i64 (p:Int)] w fun e w'=>e= .returned (.tuple #[])/\eH B w q w' q.at_ (if q.bad<0 then (p:Int) else q.bad):=by
 have E:=A.blk.rule;unfold gU at E;have I:=A.blk.free;have G:=A.lo;by_cases D:q.bad<0
 .have d0:decide (q.bad<0)=true:=(by simpa using D);rw [Vz D];go_enter func153,ntmps153;go_wp2_with fail;refine WR (v:= .tuple #[]) (WZ rfl _ _ _) rfl ⟨rfl,⟨⟨A.ge,A.blk.set 2 (.int .i64 (p:Int)),?_,A.low,A.le,A.max,?_,?_⟩,(aJ.refl (fun x=>x=q.c) w).setCell (x:=⟨q.c,2,none⟩) (.inl rfl) _⟩⟩
  .exact av.low A.row A.low (fun F=>by show q.bs.map bv=[];rw [VX F];rfl) ((VW _ _).setCell A.ge _)
  .show-1<=(p:Int);omega
  .show (p:Int)<=1048576;omega
 .have d0:decide (q.bad<0)=false:=(by simpa using D);rw [VV D];go_enter func153,ntmps153;go_wp2_with fail;refine WR (v:= .tuple #[]) (WZ rfl _ _ _) rfl ⟨rfl,eH.refl A⟩
theorem Qc (w:As) (B:Nat) (q:DC) (A:DAt w B q) (L:B<=w.heap.size):
  Calls prog 154 #[.pointer (some ⟨q.c,0,none⟩)] w fun e w'=>∃(y:UInt8) (k:Nat) (b:Int),e= .returned (.int .u8 (U8 y))/\eH B w q w' k b/\bE q.at_ q.bad (CO q.bs) y k b:=by
 have E:=A.blk.rule;unfold gU at E;have X:=A.lo;have r:=A.le;have R:=A.max;by_cases M:q.bad<0
 .have d0:decide (q.bad<0)=true:=(by simpa using M);by_cases N:q.at_<q.bs.length
  .have d1:decide ((q.bs.length:Int)<=(q.at_:Int))=false:=soA;have d2:decide (0<=q.bad)=false:=soA;go_enter func154,ntmps154;go_wp2_with fail;go_quiet (fail);go_upto_region 5 with fail;refine ag (fun W=>DAt W B q/\Below w.heap.size w W) ⟨A.old cL L,cL⟩ ?_;rintro w1 ⟨D,H⟩;clear E;have T:=D.blk.rule;unfold gU at T;have f1:=D.blk.free;have V:IntKind.i64.wrap ((q.at_:Int)+1)=((q.at_+1:Nat):Int):=(by rw [VR];omega);go_upto_region 6 with fail;refine ag (fun W=>DAt W B (q.to (q.at_+1) q.bad)/\aJ (fun x=>x=q.c) w W) ⟨⟨A.ge,D.blk.set 1 (.int .i64 ((q.at_+1:Nat):Int)),?_,A.low,N,R,X,A.hi⟩,(aJ.of_below (F:=fun x=>x=q.c) H).setCell (x:=⟨q.c,1,none⟩) (.inl rfl) _⟩ ?_
   .exact av.low D.row A.low (fun d=>by show q.bs.map bv=[];rw [VX d];rfl) ((VW _ _).setCell A.ge _)
   rintro U ⟨I,S⟩;clear T f1 V;obtain ⟨b,o,f,G⟩:=I.row q.at_ (by rw [lmA];exact N);rw [WL] at G;unfold bv at G;have c2:=I.blk.rule;unfold gU DC.to at c2;dsimp only at c2 G;have Y:q.a=some ⟨b,o,none⟩:=f;rw [Y] at c2;have p:IntKind.i64.wrap (((q.at_+1:Nat):Int)-1)=(q.at_:Int):=(by rw [VR];omega);have m:IntKind.i64.wrap ((q.at_:Int)+1-1)=(q.at_:Int):=(by rw [VR];omega);obtain ⟨y,J⟩:=At (q.bs[q.at_]);have j:U.cell? ⟨b,o+q.at_,none⟩=some (.int .u8 (U8 y)):=(by rw [J];exact G);have Z:=Hd J;clear J G;go_quiet (fail);go_wp2_with fail;go_ret;refine ⟨y,q.at_+1,q.bad,rfl,⟨I.old cL (by have:=S.size;omega),S.drewN _⟩,bE.ok (fun _=>⟨?_,oA⟩) fun h=>rfl⟩;unfold CO;rw [VJ N,Z.out]
  .have he:q.at_=q.bs.length:=oA;have d1:decide ((q.bs.length:Int)<=(q.at_:Int))=true:=soA;have s:decide (q.bs.length<=q.at_)=true:=soA;have g:=Hd he;clear he;go_enter func154,ntmps154;go_wp2_with fail;go_quiet (fail);go_upto_region 2 with fail;refine ag (fun W=>DAt W B q/\Below w.heap.size w W) ⟨A.old cL L,cL⟩ ?_;rintro w1 ⟨D,H⟩;clear E;have E:=D.blk.rule;unfold gU at E;have O:=pH w1 B q q.bs.length D R;rw [Vz M] at O;go_wp2_with fail;refine O.mono ?_;clear O;rintro e U ⟨rfl,P⟩;clear E;have c2:=P.at'.blk.rule;unfold gU DC.to at c2;dsimp only at c2;have d3:decide ((0:Int)<=(q.bs.length:Int))=true:=skA;go_wp2_with fail;go_ret;refine ⟨0,q.at_,q.bs.length,rfl,⟨P.at',(aJ.of_below H).trans P.turn fun _ hx=> .inl hx⟩,fun h=>by omega,fun _=> ?_⟩;unfold CO;rw [WK (by rw [g.out];exact VU _)]
 .have d0:decide (q.bad<0)=false:=(by simpa using M);have d2:decide (0<=q.bad)=true:=soA;go_enter func154,ntmps154;go_wp2_with fail;go_quiet (fail);go_wp2_with fail;go_ret;exact ⟨0,q.at_,q.bad,rfl,⟨A.old cL L,aJ.of_below cL⟩,fun _=>rfl,fun h=>absurd h oA⟩
def qq (bs:Le) (i a:Nat):Rd (BitVec 64):=if bs.length<a+i then .error bs.length else .ok (rdB ((bs.drop a).take i),a+i)
theorem bE.part {bs:Le} {i a0 k k':Nat} {b0 b b':Int} {m:BitVec 64} {y:UInt8} (E:bE a0 b0 (qq bs i) m k b) (D:bE k b (CO bs) y k' b'):bE a0 b0 (qq bs (i+1)) (m<<<8|||y.toBitVec.setWidth 64) k' b':=by
 refine ⟨fun h=> ?_,fun h=> ?_⟩
 .have e:=E.1 h;rw [D.1 (by rw [e];exact h),e]
 .have e:=E.2 h;unfold qq at e⊢;by_cases F:bs.length<a0+i
  .rw [Vz F] at e;have e:b=(bs.length:Int):=e;rw [Vz oA];show b'=(bs.length:Int);rw [D.1 (by rw [e];omega),e]
  .rw [VV F] at e;obtain ⟨I,J,L⟩:rdB ((bs.drop a0).take i)=m/\b= -1/\k=a0+i:=e;have A:=D.2 (by rw [J];decide);unfold CO at A;rw [L] at A;by_cases M:a0+i<bs.length
   .rw [VJ M] at A;obtain ⟨N,G,H⟩:bs[a0+i]=y/\b'= -1/\k'=a0+i+1:=A;rw [VV oA];refine ⟨?_,G,by rw [H];rfl⟩;show rdB ((bs.drop a0).take (i+1))=_;rw [Vj (by rw [ldA];omega),pf,I,Yz,N]
   .rw [WK oA] at A;rw [Vz oA];exact A
theorem bE.num {bs:Le} {a0 k:Nat} {b0 b:Int} {m:BitVec 64} (h:bE a0 b0 (qq bs 8) m k b):bE a0 b0 (bO bs) m.toInt k b:=by
 refine ⟨h.1,fun D=> ?_⟩;have e:=h.2 D;unfold qq at e;unfold bO;by_cases A:bs.length<a0+8
 .rw [Vz A] at e⊢;exact e
 .rw [VV A] at e⊢;obtain ⟨E,F,G⟩:rdB ((bs.drop a0).take 8)=m/\b= -1/\k=a0+8:=e;exact ⟨by rw [E],F,G⟩
def NumD (w:As) (B:Nat) (q:DC) (f:Nat) (v3 v4:Value) (wr:As):Prop:=
 ∃(i k:Nat) (b:Int) (m:BitVec 64),i+f=8/\v4= .int .i64 (i:Int)/\v3= .int .u64 (U64 m)/\eH B w q wr k b/\bE q.at_ q.bad (qq q.bs i) m k b
theorem vK (w:As) (B:Nat) (q:DC) (D:DAt w B q) (L:B<=w.heap.size):
  Calls prog 126 #[.pointer (some ⟨q.c,0,none⟩)] w fun e w'=>∃(m:BitVec 64) (k:Nat) (b:Int),e= .returned (.int .i64 m.toInt)/\eH B w q w' k b/\bE q.at_ q.bad (bO q.bs) m.toInt k b:=by
 have F:NumD w B q 8 (.int .u64 0) (.int .i64 0) w:=⟨0,q.at_,q.bad,0,rfl,rfl,rfl,eH.refl D,bE.ok (fun O=>⟨by unfold qq;rw [VV (by have:=D.le;omega)];rfl,by have:=D.lo;omega⟩) fun _=>rfl⟩;go_enter func126,ntmps126;go_wp2_with fail;go_loopg [3,4] 8 (NumD w B q)
 case atStart=>exact F
 case round=>
  clear F;obtain ⟨i,k,b,m,P,rfl,rfl,A,G⟩:=hrel;by_cases M:i<8
  .have t0:decide ((i:Int)<8)=true:=soA;have E:=Qc wr B (q.to k b) A.at' (Vd L A.turn.size);have I:(q.to k b).c=q.c:=rfl;rw [I] at E;go_wp2_with fail;refine E.mono ?_;clear E;rintro e R ⟨y,k2,b2,rfl,J,H⟩;go_wp2_with fail;go_roundg (gk-1)
   case measure=>omega
   case rel=>exact ⟨i+1,k2,b2,m<<<8|||y.toBitVec.setWidth 64,oA,gnA,by exact WS _ (ua m y),A.trans J,bE.part G H⟩
  .have t0:decide ((i:Int)<8)=false:=soA;obtain rfl:i=8:=oA;have N:=lD m;go_wp2_with fail;go_ret;exact ⟨m,k,b,rfl,A,bE.num G⟩
theorem bE.small_bad {bs:Le} {a0 k:Nat} {b0 b:Int} {n x:Int} (h:bE a0 b0 (bO bs) n k b) (E:n< -128\/127<n):bE a0 b0 (ed bs) x k (if b<0 then (a0:Int) else b):=by
 refine ⟨fun A=> ?_,fun A=> ?_⟩
 .rw [h.1 A,VV oA]
 .have e:=h.2 A;unfold ed;cases D:bO bs a0 with
  |error p=>
   rw [D] at e;have e:b=(p:Int):=e;show _=(p:Int);rw [e,VV oA]
  |ok z=>
   obtain ⟨F,G⟩:=z;rw [D] at e;obtain ⟨rfl,rfl,rfl⟩:F=n/\b= -1/\k=G:=e;dsimp only;rw [Vz E];rfl
theorem bE.small_ok {bs:Le} {a0 k:Nat} {b0 b:Int} {n:Int} (h:bE a0 b0 (bO bs) n k b) (D:¬(n< -128\/127<n)):bE a0 b0 (ed bs) n k b:=by
 refine ⟨h.1,fun E=> ?_⟩;have e:=h.2 E;unfold ed;cases A:bO bs a0 with
 |error p=>
  rw [A] at e;exact e
 |ok z=>
  obtain ⟨F,G⟩:=z;rw [A] at e;obtain ⟨rfl,rfl,rfl⟩:F=n/\b= -1/\k=G:=e;dsimp only;rw [VV D];exact ⟨rfl,rfl,rfl⟩
theorem Jf (w:As) (B:Nat) (q:DC) (F:DAt w B q) (L:B<=w.heap.size):
  Calls prog 125 #[.pointer (some ⟨q.c,0,none⟩)] w fun e w'=>∃(x:Int) (k:Nat) (b:Int),e= .returned (.int .i8 x)/\wf8 x/\eH B w q w' k b/\bE q.at_ q.bad (ed q.bs) x k b:=by
 have M:=F.blk.rule;unfold gU at M;have V:=F.le;have W:=F.max;have N:=vK w B q F L;go_enter func125,ntmps125;go_wp2_with fail;refine N.mono ?_;clear N;rintro e T ⟨m,k,b,rfl,D,E⟩;obtain ⟨n,J⟩:=At m.toInt;rw [<-J] at E⊢;clear J M;have X:=Vd L D.turn.size;have A:=pH T B (q.to k b) q.at_ D.at' oA;have R:(q.to k b).c=q.c:=rfl;rw [R] at A;have P:(q.to k b).bad=b:=rfl;have S:(q.to k b).at_=k:=rfl;rw [P,S] at A;have O:wf8 0:=(by show (Lit.int .i8 0).wf=true;decide);by_cases H:n< -128
 .have t1:decide (n< -128)=true:=(by simpa using H);go_wp2_with fail;refine A.mono ?_;clear A;rintro e w3 ⟨rfl,G⟩;go_wp2_with fail;go_ret;exact ⟨0,k,_,rfl,O,D.trans G,bE.small_bad E (.inl H)⟩
 have t1:decide (n< -128)=false:=(by simpa using H);by_cases I:127<n
 .have t2:decide (127<n)=true:=(by simpa using I);go_wp2_with fail;refine A.mono ?_;clear A;rintro e w3 ⟨rfl,G⟩;go_wp2_with fail;go_ret;exact ⟨0,k,_,rfl,O,D.trans G,bE.small_bad E (.inr I)⟩
 have t2:decide (127<n)=false:=(by simpa using I);have Y:IntKind.i8.wrap n=n:=by
  simp only [IntKind.wrap,IntKind.bits,IntKind.signed];simp;omega
 have U:wf8 n:=by
  simp [wf8,Lit.wf,IntKind.min,IntKind.max,IntKind.signed,IntKind.bits];omega
 clear A;go_wp2_with fail;go_ret;exact ⟨n,k,b,rfl,U,D,bE.small_ok E oA⟩
def ml (bs:Le) (each:Nat) (a0:Nat):Rd Nat:=match bO bs a0 with
 | .error p=> .error p
 | .ok (n,a)=>if n<0\/((bs.length:Int)-a).tdiv each<n then .error a0 else .ok (n.toNat,a)
theorem bE.count_bad {bs:Le} {each a0 k:Nat} {b0 b:Int} {n:Int} {x:Nat} (h:bE a0 b0 (bO bs) n k b) (E:b<0->n<0\/((bs.length:Int)-k).tdiv each<n):bE a0 b0 (ml bs each) x k (if b<0 then (a0:Int) else b):=by
 refine ⟨fun A=> ?_,fun A=> ?_⟩
 .rw [h.1 A,VV oA]
 .have e:=h.2 A;unfold ml;cases D:bO bs a0 with
  |error p=>
   rw [D] at e;have e:b=(p:Int):=e;show _=(p:Int);rw [e,VV oA]
  |ok z=>
   obtain ⟨F,G⟩:=z;rw [D] at e;obtain ⟨rfl,rfl,rfl⟩:F=n/\b= -1/\k=G:=e;dsimp only;rw [Vz (E dcA)];rfl
theorem bE.count_ok {bs:Le} {each a0 k:Nat} {b0 b:Int} {n:Int} (h:bE a0 b0 (bO bs) n k b) (H:b<0) (D:¬(n<0\/((bs.length:Int)-k).tdiv each<n)):bE a0 b0 (ml bs each) n.toNat k b:=by
 refine ⟨h.1,fun E=> ?_⟩;have e:=h.2 E;unfold ml;cases A:bO bs a0 with
 |error p=>
  rw [A] at e;exact e
 |ok z=>
  obtain ⟨F,G⟩:=z;rw [A] at e;obtain ⟨rfl,rfl,rfl⟩:F=n/\b= -1/\k=G:=e;dsimp only;rw [VV D];exact ⟨rfl,rfl,rfl⟩
theorem Eh (w:As) (B:Nat) (q:DC) (each:Nat) (O:DAt w B q) (X:B<=w.heap.size) (o:0<each) (p:each<=100):
  Calls prog 128 #[.pointer (some ⟨q.c,0,none⟩),.int .i64 (each:Int)] w fun e w'=>∃(n k:Nat) (b:Int),e= .returned (.int .i64 (n:Int))/\n<=1048576/\(0<=b->n=0)/\eH B w q w' k b/\bE q.at_ q.bad (ml q.bs each) n k b:=by
 have I:=O.blk.rule;unfold gU at I;have r:=O.le;have s:=O.max;have Y:=vK w B q O X;go_enter func128,ntmps128;go_wp2_with fail;refine Y.mono ?_;clear Y;rintro e w2 ⟨m,k,b,rfl,A,F⟩;obtain ⟨n,S⟩:=At m.toInt;rw [<-S] at F⊢;have f: -9223372036854775808<=n/\n<9223372036854775808:=by
  have J:=Xv (x:=m);have L:=Xw (x:=m);rw [S];simp at J L;omega
 clear S I;have hk:k<=q.bs.length:=A.at'.le;have I:=A.at'.blk.rule;unfold gU DC.to at I;dsimp only at I;have V:=A.at'.lo;have V: -1<=b:=V;have N:=Vd X A.turn.size;have g:IntKind.i64.wrap ((q.bs.length:Int)-(k:Int))=(q.bs.length:Int)-(k:Int):=(by rw [VR];omega);obtain ⟨z,P⟩:=At (((q.bs.length:Int)-(k:Int)).tdiv each);have t:0<=z/\z<=1048576:=by
  rw [P,WT oA];exact ⟨Int.ediv_nonneg oA oA,Int.le_trans (Int.ediv_le_self _ oA) oA⟩
 have y:IntKind.i64.wrap (((q.bs.length:Int)-(k:Int)).tdiv each)=z:=(by rw [<-P,VR];omega);have A0:((each:Int)==0)=false:=soA;have j:(each:Int)≠0:=oA;have Z:=Hd P;clear P;by_cases D:b<0
 .have d0:decide (b<0)=true:=(by simpa using D);have d2:decide (0<=b)=false:=soA;by_cases J:n<0
  .have t1:decide (n<0)=true:=(by simpa using J);go_wp2_with fail;go_quiet (fail);go_upto_region 4 with fail;refine ag (fun W=>eH B w q W k b) ⟨A.at'.old cL N,A.turn.drewN _⟩ ?_;intro w3 G;have E:=pH w3 B (q.to k b) q.at_ G.at' oA;have T:(q.to k b).c=q.c:=rfl;have R:(q.to k b).bad=b:=rfl;have U:(q.to k b).at_=k:=rfl;rw [T,R,U,Vz D] at E;go_wp2_with fail;refine E.mono ?_;clear E;rintro e d ⟨rfl,H⟩;have M:=H.at'.blk.rule;unfold gU DC.to at M;dsimp only at M;have d3:decide ((0:Int)<=(q.at_:Int))=true:=skA;go_wp2_with fail;go_ret;refine ⟨0,k,q.at_,rfl,oA,fun _=>rfl,G.trans H,?_⟩;have:=bE.count_bad (x:=0) (each:=each) F (fun _=> .inl J);rwa [Vz D] at this
  .have t1:decide (n<0)=false:=(by simpa using J);by_cases L:z<n
   .have t2:decide (z<n)=true:=(by simpa using L);go_wp2_with fail;go_quiet (fail);go_upto_region 4 with fail;refine ag (fun W=>eH B w q W k b) ⟨A.at'.old cL N,A.turn.drewN _⟩ ?_;intro w3 G;have E:=pH w3 B (q.to k b) q.at_ G.at' oA;have T:(q.to k b).c=q.c:=rfl;have R:(q.to k b).bad=b:=rfl;have U:(q.to k b).at_=k:=rfl;rw [T,R,U,Vz D] at E;go_wp2_with fail;refine E.mono ?_;clear E;rintro e d ⟨rfl,H⟩;have M:=H.at'.blk.rule;unfold gU DC.to at M;dsimp only at M;have d3:decide ((0:Int)<=(q.at_:Int))=true:=skA;go_wp2_with fail;go_ret;refine ⟨0,k,q.at_,rfl,oA,fun _=>rfl,G.trans H,?_⟩;have:=bE.count_bad (x:=0) (each:=each) F (fun _=> .inr (by rw [<-Z.out];exact L));rwa [Vz D] at this
   .have t2:decide (z<n)=false:=(by simpa using L);go_wp2_with fail;go_quiet (fail);go_wp2_with fail;go_ret;refine ⟨n.toNat,k,b,by (rw [Zq oA];rfl),oA,fun h=>by omega,⟨A.at'.old cL N,A.turn.drewN _⟩,bE.count_ok F D ?_⟩;rw [<-Z.out];omega
 .have d0:decide (b<0)=false:=(by simpa using D);have d2:decide (0<=b)=true:=soA;go_wp2_with fail;go_quiet (fail);go_wp2_with fail;go_ret;refine ⟨0,k,b,rfl,oA,fun _=>rfl,⟨A.at'.old cL N,A.turn.drewN _⟩,?_⟩;have:=bE.count_bad (x:=0) (each:=each) F (fun h=>by omega);rwa [VV oA] at this
theorem lx (m:BitVec 64):ff m.toInt:=by
 have A:=Xv (x:=m);have D:=Xw (x:=m);simp at A D;simp [ff,Lit.wf,IntKind.min,IntKind.max,IntKind.signed,IntKind.bits];omega
section
variable {α:Type} {a0 k k':Nat} {b0 b b':Int} {rd:Nat->Rd α} {x:α} {l:List α} {n:Nat}
theorem bE.none (h: -1<=b):bE k b (bQ rd 0) [] k b:=⟨fun _=>rfl,fun h'=>⟨rfl,oA,rfl⟩⟩
theorem bE.many (F:bE a0 b0 rd x k b) (E:bE k b (bQ rd n) l k' b'):bE a0 b0 (bQ rd (n+1)) (x::l) k' b':=by
 refine ⟨fun h=> ?_,fun h=> ?_⟩
 .have e:=F.1 h;rw [E.1 (by rw [e];exact h),e]
 .have e:=F.2 h;unfold bQ;cases G:rd a0 with
  |error p=>
   rw [G] at e;have e:b=(p:Int):=e;show b'=(p:Int);rw [E.1 (by rw [e];omega),e]
  |ok z=>
   rw [G] at e;obtain ⟨H,I⟩:=z;obtain ⟨rfl,rfl,rfl⟩:H=x/\b= -1/\k=I:=e;have A:=E.2 dcA;cases D:bQ rd n k with
   |error p=>
    rw [D] at A;simpa [D] using A
   |ok y=>
    rw [D] at A;obtain ⟨J,L⟩:=y;obtain ⟨rfl,rfl,rfl⟩:J=l/\b'= -1/\k'=L:=A;simp [D]
theorem bE.list {bs:Le} {each:Nat} (E:bE a0 b0 (ml bs each) n k b) (F:bE k b (bQ rd n) l k' b'):bE a0 b0 (iM bs each rd) l k' b':=by
 refine (bE.seq (f:=fun n a=>bQ rd n a) E F).mapRd ?_;unfold ml iM;cases bO bs a0 with
 |error p=>rfl
 |ok z=>
  obtain ⟨D,G⟩:=z;dsimp only;by_cases A:D<0\/((bs.length:Int)-G).tdiv each<D
  .rw [Vz A,Vz A];rfl
  .rw [VV A,VV A];rfl
end
theorem DAt.rx {w w':As} {B:Nat} {q:DC} {T:TypeId} (h:DAt w B q) (A:Rx B T w w') (D:191≠T):DAt w' B q:=
 ⟨h.ge,A.blk h.blk D,av.low h.row h.low (fun E=>by rw [VX E];rfl) A.1,h.low,h.le,h.max,h.lo,h.hi⟩
theorem eH.grown {w wr w':As} {B n c sz k:Nat} {b:Int} {q:DC} {T:TypeId} {a:Lt} {vs:AT} (h:eH B w q wr k b) (A:B<=w.heap.size) (D:Own wr w.heap.size T sz a n c vs) (E:wr.grownBy w' (Value.slice a n c).ownBlock) (G:191≠T):eH B w q w' k b:=by
 have F:=h.turn.size;have H:Below w.heap.size wr w':=D.grown (VW _ _) (VU _) E F;exact ⟨h.at'.rx (Rx.grown D A (Vd A F) E) G,h.turn.trans (aJ.of_ge H) fun x hx=> .inr hx⟩
theorem eH.alloc {w wr:As} {B k:Nat} {b:Int} {q:DC} (h:eH B w q wr k b) (D:B<=w.heap.size) (o:Obj):eH B w q (wr.alloc o) k b:=by
 have A:Below wr.heap.size wr (wr.alloc o):=(VW _ _).alloc (VU _) o;exact ⟨h.at'.old A (Vd D h.turn.size),h.turn.trans (aJ.of_below (F:=fun x=>x=q.c) A) fun x hx=> .inl hx⟩
def NM (w:As) (B:Nat) (q:DC) (N:Nat) (f:Nat) (v3 v5:Value) (wr:As):Prop:=
 ∃(i k:Nat) (b:Int) (a:Lt) (c:Nat) (l:List Int),i+f=N/\v5= .int .i64 (i:Int)/\v3= .slice a i c/\l.length=i/\(∀x∈l,ff x)/\Own wr w.heap.size 3 1 a i c (l.map (Value.int .i64))/\eH B w q wr k b/\Hid (∀m k' b',bE k b (bQ (bO q.bs) f) m k' b'->bE q.at_ q.bad (gS q.bs) (l++m) k' b')
theorem Mu (w:As) (B:Nat) (q:DC) (S:DAt w B q) (H:B<=w.heap.size):
  Calls prog 127 #[.pointer (some ⟨q.c,0,none⟩)] w fun e w'=>∃(s:Sl) (l:List Int) (k:Nat) (b:Int),e= .returned (.slice s.a s.n s.c)/\ax w' w.heap.size s l/\eH B w q w' k b/\bE q.at_ q.bad (gS q.bs) l k b:=by
 have D:=Eh w B q 8 S H dcA dcA;go_enter func127,ntmps127;go_wp2_with fail;refine D.mono ?_;clear D;rintro e t ⟨N,y,b0,rfl,hN,A0,Y,J⟩;have L:NM w B q N N (.slice none 0 0) (.int .i64 0) t:=⟨0,y,b0,none,0,[],oA,rfl,rfl,rfl,fun x hx=>by simp at hx,Own.nil _ _ _ _,Y,Hd fun m k' b' h=>J.list h⟩;clear J;go_wp2_with fail;go_loopg [3,5] N (NM w B q N)
 case atStart=>exact L
 case round=>
  clear L;obtain ⟨i,k,b,a,c,l,hi,rfl,rfl,M,O,F,E,G⟩:=hrel;by_cases A1:i<N
  .have t0:decide ((i:Int)<(N:Int))=true:=soA;have D:=vK wr B (q.to k b) E.at' (Vd H E.turn.size);have Z:(q.to k b).c=q.c:=rfl;rw [Z] at D;have A2:=E.turn.size;go_wp2_with fail;refine D.mono ?_;clear D;rintro e w3 ⟨m,k3,T,rfl,P,X⟩;have d:=lx m;generalize m.toInt=v at*;have R:=E.trans P;have V:Own w3 w.heap.size 3 1 a i c (l.map (Value.int .i64)):=F.turn P.turn (fun x hx=>by subst hx;have:=S.blk.lt;exact this);have A3:=R.turn.size;have f:=R.alloc H (.cells #[.int .i64 v] 3);have U:=V.alloc (.cells #[.int .i64 v] 3);go_wp2_with (at_builtin;refine al rfl _ _ 34 rfl sC rfl U rfl (av.new' _ _ _ _ skA) rfA (by exact de _ rfl) mxA oA soA ?_);intro a6 c6 w6 W g;have j:=f.grown H U g dcA;obtain ⟨gf,o⟩:∃x,gk=x+1:=⟨gk-1,oA⟩;have A:=G.out;rw [o] at A;have p:=Hd (show ∀m k' b',bE k3 T (bQ (bO q.bs) gf) m k' b'->bE q.at_ q.bad (gS q.bs) ((l++ [v])++m) k' b' from fun m k' b' h=>by
    rw [Vf];exact A _ _ _ (bE.many X h))
   clear A G;go_wp2_with fail;go_roundg gf
   case measure=>omega
   case rel=>
    refine ⟨i+1,k3,T,a6,c6,l++ [v],oA,gnA,rfl,by simp [M],?_,by simpa using W,j,p⟩;intro x hx;rcases Ve.1 hx with hx|hx
    .exact O x hx
    .rw [VS.1 hx];exact d
  .have t0:decide ((i:Int)<(N:Int))=false:=soA;have r:gk=0:=oA;have A:=G.out;rw [r] at A;have I:=A [] k b (bE.none E.at'.lo);rw [WO] at I;have H7:=Hd I;clear A G I;go_wp2_with fail;go_ret;exact ⟨⟨a,i,c⟩,l,k,b,rfl,⟨F,F.row,M,F.le,F.cap_le,by dsimp only;omega,O⟩,E,H7.out⟩
def fcV (a:Lt) (n cap k:Nat) (bad:Bool):AS:= #[.slice a n cap,.int .i64 (k:Int),.bool bad]
structure oH (w:As) (B C:Nat) (a:Lt) (cap:Nat) (bs:Le) (k:Nat) (bad:Bool):Prop where
 blk:Blk w C (fcV a bs.length cap k bad) 149
 row:aj w a bs
 low:InB B a bs.length
 ge:B<=C
 le:k<=bs.length
 max:bs.length<=1048576
 capOk:bs.length<=cap
section
variable {w w':As} {B C cap k:Nat} {a:Lt} {bs:Le} {bad:Bool}
theorem oH.keep (h:oH w B C a cap bs k bad) (A:w'.heap[C]? =w.heap[C]?) (D:Below B w w'):oH w' B C a cap bs k bad:=
 ⟨A.trans h.blk,av.low h.row h.low (fun E=>by rw [VX E];rfl) D,h.low,h.ge,h.le,h.max,h.capOk⟩
theorem oH.old (h:oH w B C a cap bs k bad) (A:Below w.heap.size w w') (D:B<=w.heap.size):oH w' B C a cap bs k bad:=h.keep (A.block _ h.blk.lt) (A.mono D)
theorem oH.setBad (h:oH w B C a cap bs k bad) (b:Bool):oH (w.setCell ⟨C,2,none⟩ (.bool b)) B C a cap bs k b:=
 ⟨h.blk.set 2 (.bool b),av.low h.row h.low (fun A=>by rw [VX A];rfl) ((VW _ _).setCell h.ge _),h.low,h.ge,h.le,h.max,h.capOk⟩
theorem oH.setAt (h:oH w B C a cap bs k bad) (j:Nat) (A:j<=bs.length):oH (w.setCell ⟨C,1,none⟩ (.int .i64 (j:Int))) B C a cap bs j bad:=
 ⟨h.blk.set 1 (.int .i64 (j:Int)),av.low h.row h.low (fun D=>by rw [VX D];rfl) ((VW _ _).setCell h.ge _),h.low,h.ge,A,h.max,h.capOk⟩
end
def FAt (w:As) (B C:Nat) (a:Lt) (cap:Nat) (bs:Le) (s:CS):Prop:=∃k,oH w B C a cap bs k s.bad/\s.b=bs.drop k
def ER (w:As) (B C:Nat) (a:Lt) (cap:Nat) (bs:Le) (s:CS) (e:Ending) (w':As):Prop:=
 e= .returned (.int .i64 (bp s).1)/\FAt w' B C a cap bs (bp s).2/\aJ (fun x=>x=C) w w'
def NV (w:As) (B C:Nat) (a:Lt) (cap:Nat) (bs:Le) (k:Nat) (bad:Bool) (f:Nat) (v i:Value) (wr:As):Prop:=
 ∃t:Nat,t+f=8/\i= .int .i64 (t:Int)/\v= .int .u64 (U64 (rdB ((bs.drop k).take t)))/\oH wr B C a cap bs k bad/\Below w.heap.size w wr
theorem jj (w:As) (B C:Nat) (a:Lt) (cap:Nat) (bs:Le) (s:CS) (h:FAt w B C a cap bs s) (L:B<=w.heap.size):
  Calls prog 86 #[.pointer (some ⟨C,0,none⟩)] w (ER w B C a cap bs s):=by
 obtain ⟨g,bad⟩:=s;obtain ⟨k,h,N⟩:=h;dsimp only at h N;subst N;have A:=h.blk.rule;unfold fcV at A;have Z:=h.le;have c:=h.max;have Y:IntKind.i64.wrap ((bs.length:Int)-(k:Int))=(bs.length:Int)-(k:Int):=(by rw [VR];omega);have d:=h.blk.lt;by_cases j:bs.length<k+8
 .have d1:decide ((bs.length:Int)-(k:Int)<8)=true:=soA;have H:dW 8 ⟨bs.drop k,bad⟩=([],⟨bs.drop k,true⟩):=Vz (by simp only [ldA];omega);have I:∀w1 D,oH w1 B C a cap bs k bad->Below w.heap.size w w1->D=w1.setCell ⟨C,2,none⟩ (.bool true)->ER w B C a cap bs ⟨bs.drop k,bad⟩ (.returned (.int .i64 0)) D:=by
   rintro w1 D E G rfl;unfold ER bp;rw [H];exact ⟨rfl,⟨k,E.setBad true,rfl⟩,(aJ.of_below (F:=fun x=>x=C) G).one _⟩
  have J:=Hd I;clear I H;go_enter func86,ntmps86;go_wp2_with fail;go_quiet (fail);go_upto_region 2 with fail;refine ag (fun W=>oH W B C a cap bs k bad/\Below w.heap.size w W) ⟨h.old cL L,cL⟩ ?_;rintro w1 ⟨E,G⟩;clear A;have A:=E.blk.rule;unfold fcV at A;have f1:=E.blk.free;go_wp2_with fail;go_ret;exact J.out _ _ E G rfl
 .have d1:decide ((bs.length:Int)-(k:Int)<8)=false:=soA;have H:dW 8 ⟨bs.drop k,bad⟩=((bs.drop k).take 8,⟨bs.drop (k+8),bad⟩):=by
   unfold dW;rw [VV (by simp only [ldA];omega)];rw [show (8:Int).toNat=8 from rfl,XW]
  have I:∀w1 D v,oH w1 B C a cap bs k bad->Below w.heap.size w w1->D=w1.setCell ⟨C,1,none⟩ (.int .i64 ((k+8:Nat):Int))->v=(rdB ((bs.drop k).take 8)).toInt->ER w B C a cap bs ⟨bs.drop k,bad⟩ (.returned (.int .i64 v)) D:=by
   rintro w1 D v E G rfl rfl;unfold ER bp;rw [H];exact ⟨rfl,⟨k+8,E.setAt (k+8) oA,rfl⟩,(aJ.of_below (F:=fun x=>x=C) G).one _⟩
  have J:=Hd I;clear I H;go_enter func86,ntmps86;go_wp2_with fail;go_quiet (fail);go_upto_region 3 with fail;refine ag (fun W=>NV w B C a cap bs k bad 8 (.int .u64 0) (.int .i64 0) W) ⟨0,rfl,rfl,by simp [rdB,U64],h.old cL L,cL⟩ ?_;intro w1 O;clear A h;go_wp2_with fail;go_loopg [3,4] 8 (fun f v i wr=>NV w B C a cap bs k bad f v i wr)
  case atStart=>exact O
  case round=>
   clear O;obtain ⟨t,p,rfl,rfl,h,P⟩:=hrel;have T:=P.size;have A:=h.blk.rule;unfold fcV at A;by_cases r:t<8
   .have t0:decide ((t:Int)<8)=true:=soA;have U:IntKind.i64.wrap ((k:Int)+(t:Int))=(k:Int)+(t:Int):=(by rw [VR];omega);have i2:(0:Int)<=(k:Int)+(t:Int):=oA;have i3:(k:Int)+(t:Int)<(bs.length:Int):=oA;have i4:((k:Int)+(t:Int)).toNat=k+t:=oA;obtain ⟨b,o,rfl,M⟩:=h.row (k+t) (by rw [lmA];omega);rw [WL] at M;unfold bv at M;have V:=Hd (show (bs.drop k).take (t+1)=(bs.drop k).take t++ [bs[k+t]] by
     rw [Vj (by rw [ldA];omega),Yz])
    generalize bs[k+t]=y at*;generalize R:rdB ((bs.drop k).take t)=m at*;have X:=Hd R;clear R;have S:=ua m y;go_wp2_with fail;go_quiet (fail);go_wp2_with fail;go_roundg (gk-1)
    case measure=>omega
    case rel=>
     refine ⟨t+1,oA,gnA,?_,h.old cL (Vd L T),cL⟩;rw [V.out,pf,X.out]
     first|done|exact WS _ S
   .obtain rfl:t=8:=oA;have t0:decide (((8:Nat):Int)<8)=false:=skA;have U:IntKind.i64.wrap ((k:Int)+8)=((k+8:Nat):Int):=(by rw [VR];omega);have f1:=h.blk.free;have e:=lD (rdB ((bs.drop k).take 8));go_wp2_with fail;go_ret;exact J.out _ _ _ h P rfl rfl
def dQ (size:Nat) (s:CS):Nat×CS:=
 if (bp s).2.bad=true\/(bp s).1<0\/((((bp s).2.b.length:Int)).tdiv size<(bp s).1) then (0,⟨(bp s).2.b,true⟩) else ((bp s).1.toNat,(bp s).2)
def uM (w:As) (B C:Nat) (a:Lt) (cap:Nat) (bs:Le) (size:Nat) (s:CS) (e:Ending) (w':As):Prop:=
 e= .returned (.int .i64 ((dQ size s).1:Int))/\FAt w' B C a cap bs (dQ size s).2/\aJ (fun x=>x=C) w w'
theorem sE (w:As) (B C:Nat) (a:Lt) (cap:Nat) (bs:Le) (size:Nat) (s:CS) (h:FAt w B C a cap bs s) (Z:B<=w.heap.size) (o:0<size) (p:size<=100):
  Calls prog 130 #[.pointer (some ⟨C,0,none⟩),.int .i64 (size:Int)] w (uM w B C a cap bs size s):=by
 have c:=jj w B C a cap bs s h Z;have T:=Hd (show dQ size s=if (bp s).2.bad=true\/(bp s).1<0\/((((bp s).2.b.length:Int)).tdiv size<(bp s).1) then (0,⟨(bp s).2.b,true⟩) else ((bp s).1.toNat,(bp s).2) from rfl);obtain ⟨F,U⟩:=At (uM w B C a cap bs size s);rw [<-U];have P:=Hd U;clear U h;go_enter func130,ntmps130;go_wp2_with fail;refine c.mono ?_;clear c;rintro e D ⟨rfl,⟨k,h,J⟩,M⟩;have f:=jC s;have g: -9223372036854775808<=(bp s).1/\(bp s).1<9223372036854775808:=by
  have A:=Xv (x:=rdB (dW 8 s).1);have I:=Xw (x:=rdB (dW 8 s).1);unfold bp;simp at A I;simp;omega
 have R:∀w1 w3 k1,((bp s).2.bad=true\/(bp s).1<0\/((((bp s).2.b.length:Int)).tdiv size<(bp s).1))->oH w1 B C a cap bs k (bp s).2.bad->Below D.heap.size D w1->w3=w1.setCell ⟨C,2,none⟩ (.bool true)->k1=(0:Int)->F (.returned (.int .i64 k1)) w3:=by
  rintro w1 w3 k1 V A E rfl rfl;rw [P.out];unfold uM;rw [T.out,Vz V];exact ⟨rfl,⟨k,A.setBad true,J⟩,(M.trans (aJ.of_below (F:=fun x=>x=C) E) fun _ hx=> .inl hx).one _⟩
 have S:∀w1 k1,¬((bp s).2.bad=true\/(bp s).1<0\/((((bp s).2.b.length:Int)).tdiv size<(bp s).1))->oH w1 B C a cap bs k (bp s).2.bad->Below D.heap.size D w1->k1=(bp s).1->F (.returned (.int .i64 k1)) w1:=by
  rintro w1 k1 V A E rfl;rw [P.out];unfold uM;rw [T.out,VV V];exact ⟨by rw [Zq oA],⟨k,A,J⟩,M.trans (aJ.of_below (F:=fun x=>x=C) E) fun _ hx=> .inl hx⟩
 have L:=Vd Z M.size;have X:(bp s).2.b.length=bs.length-k:=(by rw [J,ldA]);rw [X] at R S;have N:=Hd R;have d:=Hd S;clear R S T P J X M f;generalize (bp s).1=n at*;generalize (bp s).2.bad=bd at*;have r:=h.le;have t:=h.max;have G:=h.blk.rule;unfold fcV at G;have j:IntKind.i64.wrap ((bs.length:Int)-(k:Int))=(bs.length:Int)-(k:Int):=(by rw [VR];omega);obtain ⟨z,O⟩:=At (((bs.length:Int)-(k:Int)).tdiv size);have Y:(((bs.length-k:Nat):Int)).tdiv size=z:=(by rw [O];congr 1;omega);rw [Y] at N d;have y:0<=z/\z<=1048576:=by
  rw [O,WT oA];exact ⟨Int.ediv_nonneg oA oA,Int.le_trans (Int.ediv_le_self _ oA) oA⟩
 have A0:IntKind.i64.wrap (((bs.length:Int)-(k:Int)).tdiv size)=z:=(by rw [<-O,VR];omega);have A1:((size:Int)==0)=false:=soA;have m:(size:Int)≠0:=oA;clear O Y;cases bd with
 |true=>
  go_wp2_with fail;go_quiet (fail);go_upto_region 3 with fail;refine ag (fun W=>oH W B C a cap bs k true/\Below D.heap.size D W) ⟨h.old cL L,cL⟩ ?_;rintro w1 ⟨A,E⟩;clear G;have G:=A.blk.rule;unfold fcV at G;have f1:=A.blk.free;go_wp2_with fail;exact N.out _ _ _ (.inl (by first|trivial|rfl)) A E rfl rfl
 |false=>
  by_cases A:n<0
  .have t1:decide (n<0)=true:=(by simpa using A);go_wp2_with fail;go_quiet (fail);go_upto_region 3 with fail;refine ag (fun W=>oH W B C a cap bs k false/\Below D.heap.size D W) ⟨h.old cL L,cL⟩ ?_;rintro w1 ⟨H,E⟩;clear G;have G:=H.blk.rule;unfold fcV at G;have f1:=H.blk.free;go_wp2_with fail;exact N.out _ _ _ (.inr (.inl A)) H E rfl rfl
  .have t1:decide (n<0)=false:=(by simpa using A);by_cases I:z<n
   .have t2:decide (z<n)=true:=(by simpa using I);go_wp2_with fail;go_quiet (fail);go_upto_region 3 with fail;refine ag (fun W=>oH W B C a cap bs k false/\Below D.heap.size D W) ⟨h.old cL L,cL⟩ ?_;rintro w1 ⟨H,E⟩;clear G;have G:=H.blk.rule;unfold fcV at G;have f1:=H.blk.free;go_wp2_with fail;exact N.out _ _ _ (.inr (.inr I)) H E rfl rfl
   .have t2:decide (z<n)=false:=(by simpa using I);go_wp2_with fail;go_quiet (fail);go_upto_region 5 with fail;refine ag (fun W=>oH W B C a cap bs k false/\Below D.heap.size D W) ⟨h.old cL L,cL⟩ ?_;rintro w1 ⟨H,E⟩;clear G;go_wp2_with fail;exact d.out _ _ (by rintro (h|h|h)<;>first|omega|simp at h) H E rfl
def jJ (s:CS):Le×CS:=((dQ 1 s).2.b.take (dQ 1 s).1,⟨(dQ 1 s).2.b.drop (dQ 1 s).1,(dQ 1 s).2.bad⟩)
def EP (w:As) (B C:Nat) (a:Lt) (cap:Nat) (bs:Le) (s:CS) (e:Ending) (w':As):Prop:=
 e= .returned (.string (dK (jJ s).1))/\FAt w' B C a cap bs (jJ s).2/\aJ (fun x=>x=C) w w'
theorem re (s:CS) (size:Nat) (F:0<size):(dQ size s).1*size<=(dQ size s).2.b.length:=by
 unfold dQ;split
 .simp
 .rename_i h;have G:0<=(bp s).1:=oA;have A:(bp s).1<=(((bp s).2.b.length:Int)).tdiv size:=oA;rw [WT oA] at A;have D:(bp s).1*size<=(bp s).2.b.length:=Int.le_trans (Int.mul_le_mul_of_nonneg_right A oA) (Int.ediv_mul_le _ oA);dsimp only;obtain ⟨q,E⟩:∃q:Nat,(bp s).1=(q:Int):=⟨(bp s).1.toNat,oA⟩;rw [E] at D⊢;rw [WN]
  exact_mod_cast D
theorem qM (w:As) (B C:Nat) (a:Lt) (cap:Nat) (bs:Le) (s:CS) (h:FAt w B C a cap bs s) (V:B<=w.heap.size):
  Calls prog 88 #[.pointer (some ⟨C,0,none⟩)] w (EP w B C a cap bs s):=by
 have X:=sE w B C a cap bs 1 s h V dcA dcA;have R:=re s 1 dcA;obtain ⟨F,L⟩:=At (EP w B C a cap bs s);rw [<-L];have S:=Hd L;clear L h;go_enter func88,ntmps88;go_wp2_with fail;refine X.mono ?_;clear X;rintro e A ⟨rfl,⟨k,h,I⟩,M⟩;have Y:∀w1 w3,oH w1 B C a cap bs k (dQ 1 s).2.bad->Below A.heap.size A w1->w3=w1.setCell ⟨C,1,none⟩ (.int .i64 ((k+(dQ 1 s).1:Nat):Int))->F (.returned (.string (dK ((bs.drop k).take (dQ 1 s).1)))) w3:=by
  rintro w1 w3 D H rfl;rw [S.out];unfold EP jJ;dsimp only;rw [I];rw [I,ldA] at R;have:=D.le;exact ⟨rfl,⟨k+(dQ 1 s).1,D.setAt _ oA,by dsimp only;rw [XW]⟩,(M.trans (aJ.of_below (F:=fun x=>x=C) H) fun _ hx=> .inl hx).one _⟩
 rw [I,ldA] at R;have T:=Vd V M.size;have P:=Hd Y;clear Y S I M;generalize (dQ 1 s).1=n at*;generalize (dQ 1 s).2.bad=bd at*;have f:=h.le;have g:=h.max;have j:=h.capOk;have E:=h.blk.rule;unfold fcV at E;have o:k+n<=bs.length:=oA;have p:IntKind.i64.wrap ((k:Int)+(n:Int))=((k+n:Nat):Int):=(by rw [VR];omega);have r:(k:Int)<=((k+n:Nat):Int):=oA;have t:((k+n:Nat):Int)<=(cap:Int):=oA;have N:aj A (lF a cap k) ((bs.drop k).take n):=by
  unfold aj;rw [WB];exact av.take n (aj.cutV h.row rfl h.capOk k h.le)
 have O:((bs.drop k).take n).length=n:=(by rw [ltA,ldA];omega);have G:∀W,Below A.heap.size A W->∀c,(convert 22 9 (.slice (lF a cap k) n c)).run prog W= .ok (.string (dK ((bs.drop k).take n))) W:=fun W d c=>
  mO W underlying22 underlying5 underlying9 (N.below d) O
 have y:(((k+n:Nat):Int)).toNat-k=n:=oA;generalize dK ((bs.drop k).take n)=U at*;clear N O;by_cases J:cap=k
 .rw [show lF a cap k=a from Vz J] at G;subst J;have Z:∀m,(convert 22 9 (.slice a n 0)).run prog (A.drewN m)= .ok (.string U) (A.drewN m):=fun m=>G _ cL _;clear G;go_wp2_with fail;go_quiet (fail);go_upto_region 3 with fail;refine ag (fun W=>oH W B C a cap bs cap bd/\Below A.heap.size A W) ⟨h.old cL T,cL⟩ ?_;rintro w1 ⟨D,H⟩;clear E;have E:=D.blk.rule;unfold fcV at E;have f1:=D.blk.free;go_wp2_with fail;exact P.out _ _ D H rfl
 .rw [show lF a cap k=a.map (·.add k) from by unfold lF;rw [VV J,Vr]] at G;have Z:∀m,(convert 22 9 (.slice (a.map (·.add k)) n (cap-k))).run prog (A.drewN m)= .ok (.string U) (A.drewN m):=fun m=>G _ cL _;clear G;go_wp2_with fail;go_quiet (fail);go_upto_region 3 with fail;refine ag (fun W=>oH W B C a cap bs k bd/\Below A.heap.size A W) ⟨h.old cL T,cL⟩ ?_;rintro w1 ⟨D,H⟩;clear E;have E:=D.blk.rule;unfold fcV at E;have f1:=D.blk.free;go_wp2_with fail;exact P.out _ _ D H rfl
def kI (s:CS):List Int×CS:=fQ (dQ 8 s).1 (dQ 8 s).2
def NW (w:As) (B C:Nat) (a:Lt) (cap:Nat) (bs:Le) (s:CS) (e:Ending) (w':As):Prop:=
 ∃l:Sl,e= .returned (.slice l.a l.n l.c)/\ax w' w.heap.size l (kI s).1/\FAt w' B C a cap bs (kI s).2/\aJ (fun x=>x=C) w w'
def IH (w:As) (B C:Nat) (a:Lt) (cap:Nat) (bs:Le) (N:Nat) (L:List Int×CS) (f:Nat) (v3 v5:Value) (wr:As):Prop:=
 ∃(i:Nat) (a':Lt) (c':Nat) (l:List Int) (s:CS),i+f=N/\v5= .int .i64 (i:Int)/\v3= .slice a' i c'/\l.length=i/\(∀x∈l,ff x)/\Own wr w.heap.size 3 1 a' i c' (l.map (Value.int .i64))/\FAt wr B C a cap bs s/\aJ (fun x=>x=C) w wr/\Hid (L=(l++(fQ f s).1,(fQ f s).2))
theorem FAt.lt {w:As} {B C cap:Nat} {a:Lt} {bs:Le} {s:CS} (h:FAt w B C a cap bs s):C<w.heap.size:=by
 obtain ⟨k,h,-⟩:=h;exact h.blk.lt
theorem FAt.keep {w w':As} {B C cap:Nat} {a:Lt} {bs:Le} {s:CS} (h:FAt w B C a cap bs s) (A:w'.heap[C]? =w.heap[C]?) (D:Below B w w'):FAt w' B C a cap bs s:=by
 obtain ⟨k,h,e⟩:=h;exact ⟨k,h.keep A D,e⟩
theorem qN (w:As) (B C:Nat) (a:Lt) (cap:Nat) (bs:Le) (s:CS) (h:FAt w B C a cap bs s) (I:B<=w.heap.size):
  Calls prog 89 #[.pointer (some ⟨C,0,none⟩)] w (NW w B C a cap bs s):=by
 have R:=h.lt;have F:=sE w B C a cap bs 8 s h I dcA dcA;have j:=re s 8 dcA;obtain ⟨L,A⟩:=At (kI s);have m:=Hd A;have X:=Hd (show L=fQ (dQ 8 s).1 (dQ 8 s).2 by rw [A];rfl);clear A h;go_enter func89,ntmps89;go_wp2_with fail;refine F.mono ?_;clear F;rintro e w1 ⟨rfl,J,S⟩;have o:(dQ 8 s).2.b.length<=1048576:=by
  obtain ⟨k,h,e⟩:=J;rw [e,ldA];have:=h.max;omega
 generalize (dQ 8 s).1=N at*;generalize (dQ 8 s).2=s1 at*;have hN:N<=1048576:=oA;have T:IH w B C a cap bs N L N (.slice none 0 0) (.int .i64 0) w1:=⟨0,none,0,[],s1,oA,rfl,rfl,rfl,fun x hx=>by simp at hx,Own.nil _ _ _ _,J,S,Hd (by rw [X.out];rfl)⟩;clear J S X j o;go_wp2_with fail;go_loopg [3,5,6] N (fun f v3 v5 _ wr=>IH w B C a cap bs N L f v3 v5 wr)
 case atStart=>exact T
 case round=>
  clear T;obtain ⟨i,a',c',l,s,hi,rfl,rfl,U,V,E,Y,M,A⟩:=hrel;by_cases A5:i<N
  .have t0:decide ((i:Int)<(N:Int))=true:=soA;have p:=M.size;have F:=jj wr B C a cap bs s Y (Vd I p);go_wp2_with fail;refine F.mono ?_;clear F;rintro e w3 ⟨rfl,r,W⟩;obtain ⟨gf,t⟩:∃x,gk=x+1:=⟨gk-1,oA⟩;have D:=A.out;rw [t] at D;have G:=Hd (show L=((l++ [(bp s).1])++(fQ gf (bp s).2).1,(fQ gf (bp s).2).2) from by rw [D];simp [fQ]);have y:=jC s;clear A D;generalize (bp s).1=v at*;generalize (bp s).2=Z at*;have d:Own w3 w.heap.size 3 1 a' i c' (l.map (Value.int .i64)):=E.turn W (fun x hx=>by subst hx;exact R);have P:=M.trans W fun _ hx=> .inl hx;have A0:=P.size;have c:=d.alloc (.cells #[.int .i64 v] 3);go_wp2_with (at_builtin;refine al rfl _ _ 34 rfl sC rfl c rfl (av.new' _ _ _ _ skA) rfA (by exact de _ rfl) mxA oA soA ?_);intro a6 c6 O g A1;have H:Below w.heap.size w3 O:=((VW _ _).alloc A0 _).trans (c.grown (VW _ _) (VU _) A1 soA);have A2:FAt O B C a cap bs Z:=r.keep (H.block C R) (H.mono I);have A3:aJ (fun x=>x=C) w O:=P.trans (aJ.of_ge H) fun x hx=> .inr hx;go_wp2_with fail;go_roundg gf
   case measure=>omega
   case rel=>
    refine ⟨i+1,a6,c6,l++ [v],Z,oA,gnA,rfl,by simp [U],?_,by simpa using g,A2,A3,G⟩;intro x hx;rcases Ve.1 hx with hx|hx
    .exact V x hx
    .rw [VS.1 hx];exact y
  .have t0:decide ((i:Int)<(N:Int))=false:=soA;have A4:gk=0:=oA;have D:=A.out;rw [A4] at D;have G:=Hd (show L=(l,s) from by rw [D];simp [fQ]);clear A D;go_wp2_with fail;go_ret;refine ⟨⟨a',i,c'⟩,rfl,?_⟩;rw [<-m.out,G.out];exact ⟨⟨E,E.row,U,E.le,E.cap_le,by dsimp only;omega,V⟩,Y,M⟩
end
section
open Go.RowKit
def Agr {α:Type} (x y:α×CS):Prop:=x.2.bad=y.2.bad/\(y.2.bad=false->x=y)
theorem mN {n:Int} {s:CS} (h:s.bad=true):(dW n s).2.bad=true:=by
 unfold dW;split
 .rfl
 .exact h
theorem pj {s:CS} (h:s.bad=true):(bp s).2.bad=true:=mN h
theorem sI {s:CS} {n:Nat} (h:s.bad=true):(dQ n s).2.bad=true:=by
 unfold dQ;rw [Vz (.inl (pj h))]
theorem pU {s:CS} (h:s.bad=true):(jJ s).2.bad=true:=sI h
theorem pW {s:CS} (h:s.bad=true):(gM s).2.bad=true:=mN (pj h)
theorem mU:∀(k:Nat) {s:CS},s.bad=true->(fQ k s).2.bad=true
 |0,_,h=>h
 |k+1,_,h=>mU k (pj h)
theorem qG {s:CS} (h:s.bad=true):(kI s).2.bad=true:=mU _ (sI h)
theorem qI {s:CS} (h:s.bad=true):(gP s).2.bad=true:=by
 unfold gP;split
 .rfl
 .exact mU _ (pj h)
theorem tx (s:CS):Agr (jJ s) (gM s):=by
 unfold jJ gM dQ;generalize (bp s).1=n;generalize (bp s).2=t;cases D:t.bad with
 |true=>
  rw [Vz (.inl rfl)];refine ⟨(mN D).symm,fun h=> ?_⟩;rw [mN D] at h;cases h
 |false=>
  have e:((t.b.length:Int)).tdiv ((1:Nat):Int)=t.b.length:=skA;by_cases A:n<0\/(t.b.length:Int)<n
  .rw [Vz (.inr (by rw [e];exact A))];unfold dW;rw [Vz A];exact ⟨rfl,fun h=>by cases h⟩
  .rw [VV (by rw [e];rintro (h|h);cases h;exact A h)];unfold dW;rw [VV A];exact ⟨rfl,fun _=>rfl⟩
theorem uo (s:CS):Agr (kI s) (gP s):=by
 unfold kI gP dQ;generalize (bp s).1=n;generalize (bp s).2=t;have e:((t.b.length:Int)).tdiv ((8:Nat):Int)=((t.b.length/8:Nat):Int):=(by rw [WT oA];omega);rw [e];cases E:t.bad with
 |true=>
  rw [Vz (.inl rfl)];have D:(if n<0\/((t.b.length/8:Nat):Int)<n then ([],⟨t.b,true⟩) else fQ n.toNat t:List Int×CS).2.bad=true:=by
   split
   .rfl
   .exact mU _ E
  refine ⟨D.symm,fun h=> ?_⟩;rw [D] at h;cases h
 |false=>
  by_cases A:n<0\/((t.b.length/8:Nat):Int)<n
  .rw [Vz (.inr A),Vz A];exact ⟨rfl,fun h=>by cases h⟩
  .rw [VV (by rintro (h|h);cases h;exact A h),VV A];exact ⟨rfl,fun _=>rfl⟩
theorem Agr.step {α:Type} {f g:CS->α×CS} (D:∀s,Agr (f s) (g s)) (F:∀{s:CS},s.bad=true->(f s).2.bad=true) (G:∀{s:CS},s.bad=true->(g s).2.bad=true)
  (u:ao->α->ao) {x y:ao×CS} (h:Agr x y):Agr (u x.1 (f x.2).1,(f x.2).2) (u y.1 (g y.2).1,(g y.2).2):=by
 cases A:y.2.bad with
 |true=>
  have H:=F (h.1.trans A);have E:=G A;exact ⟨H.trans E.symm,fun h=>by rw [E] at h;cases h⟩
 |false=>
  rw [h.2 A];exact ⟨(D y.2).1,fun I=>by rw [(D y.2).2 I]⟩
def nW (p:ao) (s:CS):ao×CS:=({p with dr:=(kI s).1},(kI s).2)
def nV (p:ao) (s:CS):ao×CS:=nW {p with d1:=(kI s).1} (kI s).2
def mu (p:ao) (s:CS):ao×CS:=nV {p with d0:=(kI s).1} (kI s).2
def nU (p:ao) (s:CS):ao×CS:=mu {p with n1:=dK (jJ s).1} (jJ s).2
def nT (p:ao) (s:CS):ao×CS:=nU {p with n0:=dK (jJ s).1} (jJ s).2
def DY:Nat->ao->CS->ao×CS
 |0=>nW
 |1=>nV
 |_=>mu
def Kr:Nat->ao->CS->ao×CS
 |0=>mu
 |1=>nU
 |_=>nT
def Gs (p:ao) (s:CS):ao×CS:=nT {p with fmt:=dK (jJ s).1} (jJ s).2
def uw (p:ao) (s:CS):ao×CS:=Gs {p with table:=(bp s).1} (bp s).2
theorem Bt {p q:ao} {s t:CS} (h:Agr (p,s) (q,t)):Agr (nW p s) (qX q t):=by
 unfold nW qX;have k:=Agr.step (x:=(p,s)) (y:=(q,t)) uo qG qI (fun (p:ao) l=>{p with dr:=l}) h;dsimp only at k;exact k
theorem Bs {p q:ao} {s t:CS} (h:Agr (p,s) (q,t)):Agr (nV p s) (qW q t):=by
 unfold nV qW;have k:=Agr.step (x:=(p,s)) (y:=(q,t)) uo qG qI (fun (p:ao) l=>{p with d1:=l}) h;dsimp only at k;exact Bt k
theorem Br {p q:ao} {s t:CS} (h:Agr (p,s) (q,t)):Agr (mu p s) (oC q t):=by
 unfold mu oC;have k:=Agr.step (x:=(p,s)) (y:=(q,t)) uo qG qI (fun (p:ao) l=>{p with d0:=l}) h;dsimp only at k;exact Bs k
theorem Bq {p q:ao} {s t:CS} (h:Agr (p,s) (q,t)):Agr (nU p s) (qE q t):=by
 unfold nU qE;have k:=Agr.step (x:=(p,s)) (y:=(q,t)) tx pU pW (fun (p:ao) l=>{p with n1:=dK l}) h;dsimp only at k;exact Br k
theorem Bp {p q:ao} {s t:CS} (h:Agr (p,s) (q,t)):Agr (nT p s) (qD q t):=by
 unfold nT qD;have k:=Agr.step (x:=(p,s)) (y:=(q,t)) tx pU pW (fun (p:ao) l=>{p with n0:=dK l}) h;dsimp only at k;exact Bq k
theorem KS {p q:ao} {s t:CS} (h:Agr (p,s) (q,t)):Agr (Gs p s) (MN q t):=by
 unfold Gs MN;have k:=Agr.step (x:=(p,s)) (y:=(q,t)) tx pU pW (fun (p:ao) l=>{p with fmt:=dK l}) h;dsimp only at k;exact Bp k
theorem Agr.refl {α:Type} (x:α×CS):Agr x x:=⟨rfl,fun _=>rfl⟩
theorem ED (p:ao) (s:CS):Agr (uw p s) (yQ p s):=KS (Agr.refl _)
def Of (s:CS):ao×CS:=if (bp s).2.bad=true then (jZ 2 (bp s).1,(bp s).2) else ({jZ 2 (bp s).1 with act:=(ec (bp s).2.b).1},⟨[],decide ((ec (bp s).2.b).2.2≠0)⟩)
def Oc (k:Int) (s:CS):ao×CS:=if k=2 then Of s else if k=1 then uw (jZ 1 (bp s).1) (bp s).2 else (jZ k (bp s).1,(bp s).2)
theorem Jq (k:Int) (s:CS):Agr (Oc k s) (tT k s):=by
 unfold Oc tT;by_cases A:k=2
 .subst A;rw [Vz rfl,VV dcA,Vz rfl];unfold Of It;cases D:(bp s).2.bad with
  |true=>
   rw [Vz rfl];exact ⟨by simp [D],fun h=>by simp at h⟩
  |false=>
   rw [VV dcA];exact ⟨skA,fun h=>by simp [jZ]⟩
 .by_cases h1:k=1
  .subst h1;rw [VV dcA,Vz rfl,Vz rfl,wK];exact ED _ _
  .rw [VV A,VV h1,VV h1,VV A];exact Agr.refl _
theorem Kt {x y:ao×CS} (h:Agr x y):wm x=wm y:=by
 cases A:y.2.bad with
 |true=>
  unfold wm;rw [Vz (.inl (h.1.trans A)),Vz (.inl A)]
 |false=>rw [h.2 A]
theorem FD (y:UInt8) (r:Le):gB (y::r)=wm (Oc (lJ y) ⟨r,false⟩):=(Kt (Jq _ _)).symm
end
end Go.Proofs.YtioigihakjlopaaGreat
