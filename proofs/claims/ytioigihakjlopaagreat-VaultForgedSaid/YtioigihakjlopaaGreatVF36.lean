import Derived.Test.YtioigihakjlopaaGreatVF30
namespace Go.Proofs.YtioigihakjlopaaGreat
open Go.Proofs.Tryz
set_option linter.unusedVariables false
set_option linter.unusedSimpArgs false
set_option maxHeartbeats 16000000
set_option maxRecDepth 100000
section
open Go.RowKit Go.Maps
structure Ay (w1:World) (B:Nat) (r1:di) (l:List cQ) (f:cQ) (g c i:Nat) (wr:World):Prop where
 row:Own wr B 118 3 (some ⟨g,0,none⟩) (l.length+1) c ((gy l f i).flatMap aS)
 turn:aJ (fun x=>x=g) w1 wr
 more:∀j (hj:j<l.length),i<=j->qN f.nm l[j].nm=true
theorem Ay.at {w1 wr:World} {B:Nat} {r1:di} {l:List cQ} {f:cQ} {g c i:Nat} (h:Ay w1 B r1 l f g c i wr) (h1:db w1 B r1) (hl:r1.fs=l++ [f]) (hg:r1.la=some ⟨g,0,none⟩) (hc:r1.lc=c):db wr B {r1 with fs:=gy l f i}:=by
 have hx:∃cur,Blk w1 g cur 118:=by
  obtain ⟨_,_,cur,hc⟩:=h1.row.block_lt hg;exact ⟨cur,hc⟩
 obtain ⟨cur,hcur⟩:=hx;have off:∀{b:Nat} {cs:Array Value} {t:TypeId},Blk w1 b cs t->t≠118->wr.heap[b]? =w1.heap[b]? :=fun hb hne=>h.turn.block _ hb.lt (Blk.ne hb hcur hne);have hlen:r1.fs.length=l.length+1:=(by rw [hl];simp);have hp:(gy l f i).Perm r1.fs:=(by rw [hl];exact rC l f i);refine ⟨h1.ged,(off h1.blk dcA).trans ?_,?_,fun q hq=> ?_,?_,?_⟩
 .have:=h1.blk;unfold Blk cJ at*;rw [this];simp [dZ,hlen]
 .show Own wr B 118 3 r1.la (gy l f i).length r1.lc ((gy l f i).flatMap aS);rw [hg,dZ,hc];exact h.row
 .have hq':q∈r1.fs:=hp.mem_iff.1 hq;refine (h1.files q hq').keepAt fun x hx=> ?_;obtain ⟨_,_,cur,hc⟩:=(h1.files q hq').block_lt hx;exact off hc dcA
 .refine h1.plan.keepAt fun x hx=> ?_;obtain ⟨_,_,cur,hc⟩:=h1.plan.block_lt hx;exact off hc dcA
 .exact h1.ok.perm (p:=r1.p) (hp.map cQ.p)
theorem Ay.old {w1 wr w':World} {B:Nat} {r1:di} {l:List cQ} {f:cQ} {g c i:Nat} (h:Ay w1 B r1 l f g c i wr) (hb:Below wr.heap.size wr w'):Ay w1 B r1 l f g c i w':=⟨h.row.old hb,h.turn.trans (aJ.of_below (F:=fun x=>x=g) hb) (fun _ hk=> .inl hk),h.more⟩
theorem Bj (old:Array Value) (k:Nat) (a b c:Value) (hk:k+3<=old.size):(cD old k #[a,b,c]).toList=((old.toList.set k a).set (k+1) b).set (k+2) c:=by
 have hl:old.toList.length=old.size:=Array.length_toList;have hd:(old.toList.drop k).length=old.size-k:=(by rw [ldA,hl]);have e1:old.toList=old.toList.take k++old.toList.drop k:=(WW _ _).symm;have hA:(old.toList.take k).length=k:=(by rw [ltA,hl];omega);have e3:old.toList.drop (k+3)=(old.toList.drop k).drop 3:=(by rw [Wu]);unfold cD;show old.toList.take k++ [a,b,c]++old.toList.drop (k+3)=_;rw [e3];generalize hD:old.toList.drop k=D at*;generalize old.toList.take k=A at*;rw [e1]
 match D,hd with
 |x::y::z::R,_=>
  subst hA;rw [List.set_append_right _ _ oA,List.set_append_right _ _ oA,List.set_append_right _ _ oA];simp
 | [],hd=>simp at hd;omega
 | [_],hd=>simp at hd;omega
 | [_,_],hd=>simp at hd;omega
theorem Own.store3 {w:World} {B g n c:Nat} {fs:List cQ} {old:Array Value} (h:Own w B 118 3 (some ⟨g,0,none⟩) n c (fs.flatMap aS)) (hB:Blk w g old 118) (k:Nat) (hk:k<fs.length) (q:cQ):
  Own (w.setRow g (cD old (k*3) #[.string q.nm,.slice q.a q.b.length q.c,.int .i64 (q.sure:Int)])) B 118 3 (some ⟨g,0,none⟩) n c ((fs.set k q).flatMap aS)/\k*3+3<=old.size:=by
 have hn:=h.1;rw [uX] at hn;have hn2:fs.length=n:=oA;rcases h.2 with ⟨h0,h1⟩|⟨g',cap,cur,h0,hBg,hg,hnc,hm,hs,ht⟩
 .simp at h0
 .simp only [VC,Vn,Xk] at h0;obtain ⟨⟨rfl,-⟩,-,rfl⟩:=h0;have e:cur=old:=by
   have:=(show w.heap[g]? =_ from hg).symm.trans hB;simpa using this
  subst e;have hle:k*3+3<=cur.size:=oA;refine ⟨⟨by rw [uX,Xx];exact hn,.inr ⟨g,c,_,rfl,hBg,hB.setRow _,hnc,hm,?_,?_⟩⟩,hle⟩
  .have:=WG List.length (Bj cur (k*3) (.string q.nm) (.slice q.a q.b.length q.c) (.int .i64 (q.sure:Int)) hle);simp only [Xx,Array.length_toList] at this;omega
  .rw [Bj _ _ _ _ _ hle,List.take_set,List.take_set,List.take_set,ht,yz hk]
theorem Ay.drewN {w1 wr:World} {B:Nat} {r1:di} {l:List cQ} {f:cQ} {g c i:Nat} (h:Ay w1 B r1 l f g c i wr) (n:Nat):Ay w1 B r1 l f g c i (wr.drewN n):=⟨h.row.keepAt fun _ _=>rfl,h.turn.drewN n,h.more⟩
theorem ti {w:World} {B:Nat} {g n c:Nat} {fs:List cQ} (h:Own w B 118 3 (some ⟨g,0,none⟩) n c (fs.flatMap aS)) (k:Nat) (hk:k<fs.length):w.cell? ⟨g,k*3,none⟩=some (.string fs[k].nm)/\w.cell? ⟨g,k*3+1,none⟩=some (.slice fs[k].a fs[k].b.length fs[k].c)/\w.cell? ⟨g,k*3+2,none⟩=some (.int .i64 (fs[k].sure:Int)):=by
 obtain ⟨b,o,e1,_,hc⟩:=aw.elem (g:=aS) (sz:=3) (fun _=>rfl) h.row oA k hk;cases e1;have h0:=hc 0 (show 0<3 by omega);have h1:=hc 1 (show 1<3 by omega);have h2:=hc 2 (show 2<3 by omega);simp only [VS,Nat.add_zero] at h0 h1 h2;exact ⟨h0,h1,h2⟩
theorem Ay.post {w w3 wr:World} {B:Nat} {r:di} {f:cQ} {g c i:Nat} (h:Ay w3 B {r with fs:=r.fs++ [f],la:=some ⟨g,0,none⟩,lc:=c} r.fs f g c i wr) (h1:db w3 B {r with fs:=r.fs++ [f],la:=some ⟨g,0,none⟩,lc:=c})
  (ht:aJ (fun x=>x=r.d\/∃ad,r.la=some ad/\x=ad.block) w w3) (hl:∀ad,some (⟨g,0,none⟩:Addr)=some ad->(∃ad',r.la=some ad'/\ad.block=ad'.block)\/w.heap.size<=ad.block) (hi:i<=r.fs.length)
  (hn:i=0\/∃h:i-1<r.fs.length,qN f.nm r.fs[i-1].nm=false):qx B w r f wr:=by
 refine ⟨i,some ⟨g,0,none⟩,c,hi,hn,h.more,h.at h1 rfl rfl rfl,ht.trans h.turn fun k hk=> ?_,hl⟩;subst hk;rcases hl _ rfl with h2|h2
 .exact .inl (.inr h2)
 .exact .inr h2
theorem Ef (w:World) (B:Nat) (r:di) (f:cQ) (h:db w B r) (hB:B<=w.heap.size) (hf:Own w B 5 1 f.a f.b.length f.c (f.b.map bv)) (hok:dN (di.p {r with fs:=r.fs++ [f]})):
  Calls prog 65 #[.pointer (some ⟨r.d,0,none⟩),.agg #[.string f.nm,.slice f.a f.b.length f.c,.int .i64 (f.sure:Int)]] w fun e w'=>e= .returned (.tuple #[])/\qx B w r f w':=by
 have hcnt:r.fs.length+1<=64:=(by have:=hok.count;simpa [di.p] using this);have HO:=Hd hok;have hz:r.d<w.heap.size:=h.blk.lt;obtain ⟨wb,hwb⟩:=Le (w.alloc (.cells (aS f).toArray 118));have hbb:Below w.heap.size w wb:=hwb▸(AT _ _).alloc (Lt _) _;have hbx:Blk wb w.heap.size (aS f).toArray 118:=hwb▸Blk.new _ _ _;have hB2:B<=wb.heap.size:=At hB hbb.size;have hzb:wb.heap.size=w.heap.size+1:=(by rw [hwb];simp);have HW:=Hd hwb;have hrb:=h.old hbb;have hblk:=hrb.blk;unfold cJ at hblk;clear hok;go_enter func65,ntmps65;go_upto_region 1 with (fail);rw [show w.alloc (.cells #[.string f.nm,.slice f.a f.b.length f.c,.int .i64 (f.sure:Int)] 118)=wb from HW.out.symm];obtain ⟨S,hS⟩:∃S:Nat->Prop,S=fun x=>x=r.d\/x=w.heap.size:=⟨_,rfl⟩;have HS:=Hd hS;clear hS hwb;have hkd:∀W,aq S wb.drew W->W.cell? ⟨r.d,0,none⟩=some (.slice r.la r.fs.length r.lc):=fun W hW=>by
  have:Blk W r.d _ _:=(hW.2 r.d (by rw [HS.out];exact .inl rfl)).trans hblk;exact this.rule 0
 have hkx:∀W,aq S wb.drew W->∀i,W.cell? ⟨w.heap.size,i,none⟩=(aS f).toArray[i]? :=fun W hW i=>by
  have:Blk W w.heap.size _ _:=(hW.2 w.heap.size (by rw [HS.out];exact .inr rfl)).trans hbx;exact this.rule i
 have k0:∀W,aq S wb.drew W->W.cell? ⟨w.heap.size,0,none⟩=some (.string f.nm):=fun W hW=>hkx W hW 0;have k1:∀W,aq S wb.drew W->W.cell? ⟨w.heap.size,1,none⟩=some (.slice f.a f.b.length f.c):=fun W hW=>hkx W hW 1;have k2:∀W,aq S wb.drew W->W.cell? ⟨w.heap.size,2,none⟩=some (.int .i64 (f.sure:Int)):=fun W hW=>hkx W hW 2;clear hkx;refine aj true (aq S) (aq.refl _) (fun _ _ _ h1 h2=>aq.trans h1 h2) (.step 0 (.step 1 (.step 2 (.step 3 (.step 4 (.step 5 (.step 6 (.step 7 (.step 8 (.step 9 (.step 10 .done))))))))))) krA krA cdA ?_
 repeat (first|refine tsA ?_|refine tqA ?_)
 refine an rfl rfl rfA (fun K hK=> ?_);go_wp2_with fail;have hbc:Below wb.heap.size wb (wb.alloc (.cells (aS f).toArray 118)).drew:=((AT _ _).alloc (Lt _) _).drew;have hSlt:∀x,S x->x<wb.heap.size:=fun x hx=>(by rw [HS.out] at hx;rcases hx with rfl|rfl<;>omega);refine hK _ _ ⟨(aq.below hbc hSlt).1,(aq.below hbc hSlt).2⟩ ?_
 clear hK K
 repeat (first|refine tsA ?_|refine tqA ?_)
 refine an rfl rfl rfA (fun K hK=> ?_);refine fW (.tmp 10) (.tmp 12) 46 rfl Lu rfl ((h.row.old hbb).old hbc) rfl (aw.new' _ _ _ _ hzb) rfl oA (by exact dg _ rfl) mxA oA (At hB2 hbc.size) ?_;intro g c2 w2 hown2 hg2 hat2;have hla:∀ad,r.la=some ad->ad.block<w.heap.size:=fun ad ha=>(h.row.block_lt ha).2.1;have hka:aq S (wb.alloc (.cells (aS f).toArray 118)).drew w2:=⟨hg2.size,fun x hx=>hg2.block x (VF (hSlt x hx) hbc.size) fun e=>by
  rw [HS.out] at hx;cases hr:r.la with
  |none=>rw [hr] at e;cases e
  |some ad=>
   rw [hr] at e;have e2:x=ad.block:=(by simpa [Value.ownBlock] using e);obtain ⟨_,_,_,hc⟩:=h.row.block_lt hr;rcases hx with rfl|rfl
   .exact Blk.ne h.blk hc dcA e2
   .have:=hla ad hr;omega⟩
 refine hK _ _ hka ?_;clear hK K;have hblk2:Blk w2 r.d _ _:=((hka.2 r.d (by rw [HS.out];exact .inl rfl)).trans (hbc.block _ (VF hz hbb.size))).trans hblk;have hfr2:=hblk2.free;have hrd2:=hblk2.rule 0;have off:∀{b:Nat} {cs:Array Value} {t:TypeId},Blk w b cs t->t≠118->w2.heap[b]? =w.heap[b]? :=fun hb hne=>by
  refine ((hg2.block _ (VF hb.lt (At hbb.size hbc.size)) fun e=> ?_).trans (hbc.block _ (VF hb.lt hbb.size))).trans (hbb.block _ hb.lt);cases hr:r.la with
  |none=>rw [hr] at e;cases e
  |some ad=>
   rw [hr] at e;obtain ⟨_,_,_,hc⟩:=h.row.block_lt hr;exact Blk.ne hb hc hne (by simpa [Value.ownBlock] using e)
 have hz2:w.heap.size<=w2.heap.size:=At (At hbb.size hbc.size) hg2.size;have hk3:∀x,x≠r.d->(w2.setCell ⟨r.d,0,none⟩ (.slice (some ⟨g,0,none⟩) (r.fs.length+1) c2)).heap[x]? =w2.heap[x]? :=fun x hx=>VU _ _ _ _ hx;have HAT:=Hd (show db (w2.setCell ⟨r.d,0,none⟩ (.slice (some ⟨g,0,none⟩) (r.fs.length+1) c2)) B {r with fs:=r.fs++ [f],la:=some ⟨g,0,none⟩,lc:=c2} by
  refine ⟨h.ged,?_,?_,?_,?_,HO.out⟩
  .have:=hblk2.set 0 (.slice (some ⟨g,0,none⟩) (r.fs.length+1) c2);unfold cJ;simpa using this
  .have:=hown2.setCell_apart hblk2 dcA 0 (.slice (some ⟨g,0,none⟩) (r.fs.length+1) c2);simpa [aS] using this
  .intro q hq;have hq':Own w B 5 1 q.a q.b.length q.c (q.b.map bv):=by
    rcases VQ.1 hq with hq|hq
    .exact h.files q hq
    .rw [VH.1 hq];exact hf
   refine hq'.keepAt fun x hx=> ?_;obtain ⟨_,_,_,hc⟩:=hq'.block_lt hx;exact (hk3 _ (Blk.ne hc h.blk dcA)).trans (off hc dcA)
  .refine h.plan.keepAt fun x hx=> ?_;obtain ⟨_,_,_,hc⟩:=h.plan.block_lt hx;exact (hk3 _ (Blk.ne hc h.blk dcA)).trans (off hc dcA))
 have HTU:=Hd (show aJ (fun x=>x=r.d\/∃ad,r.la=some ad/\x=ad.block) w (w2.setCell ⟨r.d,0,none⟩ (.slice (some ⟨g,0,none⟩) (r.fs.length+1) c2)) by
  have t1:=((aJ.of_below (F:=fun x=>x=r.d\/∃ad,r.la=some ad/\x=ad.block) (hbb.trans (hbc.mono hbb.size))).trans (aJ.of_grown (F:=fun x=>x=r.d\/∃ad,r.la=some ad/\x=ad.block) hg2 (fun k e=>by
   cases hr:r.la with
   |none=>rw [hr] at e;cases e
   |some ad=>
    rw [hr] at e;exact .inr ⟨ad,rfl,by simpa [Value.ownBlock] using e.symm⟩)) (fun k hk=> .inl hk))
  exact t1.setCell (x:=⟨r.d,0,none⟩) (.inl (.inl rfl)) _)
 have HLA:=Hd (show ∀ad,some (⟨g,0,none⟩:Addr)=some ad->(∃ad',r.la=some ad'/\ad.block=ad'.block)\/w.heap.size<=ad.block by
  intro ad ha;cases ha;rcases hat2 with ⟨ad',h1,h2⟩|h1
  .exact .inl ⟨ad',h1,h2⟩
  .exact .inr (At (At hbb.size hbc.size) h1))
 clear hkd k0 k1 k2 off hk3 hat2 hla hka hbc hSlt hblk hbx hrb hzb
 repeat (first|refine tsA ?_|refine tqA ?_)
 refine az rfl rfl rfA (fun K hK=> ?_);go_wp2_with fail;refine ap ?_;clear hg2 hown2 hblk2 hfr2 hrd2 hz2 HW hbb hB2 hcnt;generalize w2.setCell ⟨r.d,0,none⟩ (.slice (some ⟨g,0,none⟩) (r.fs.length+1) c2)=w3 at*;have hat3:=HAT.out;have hb3:=hat3.blk.rule 0;unfold cJ at hb3;have e3:((r.fs.length:Int)+1)-1=(r.fs.length:Int):=oA;have hcnt:r.fs.length+1<=64:=(by have:=HO.out.count;simpa [di.p] using this);go_wp2_with fail;have hst:Ay w3 B {r with fs:=r.fs++ [f],la:=some ⟨g,0,none⟩,lc:=c2} r.fs f g c2 r.fs.length w3:=⟨by rw [Cs];simpa using hat3.row,aJ.refl _ _,fun j hj hle=>by omega⟩;go_loopg [4,5] r.fs.length (fun fu v4 v5 wr=>v4= .int .i64 (fu:Int)/\fu<=r.fs.length/\Ay w3 B {r with fs:=r.fs++ [f],la:=some ⟨g,0,none⟩,lc:=c2} r.fs f g c2 fu wr)
 case atStart=>exact ⟨rfl,Lt _,hst⟩
 case round=>
  obtain ⟨rfl,hle,hP⟩:=hrel;clear hst hat3 hb3 e3;have ha:=hP.at HAT.out rfl rfl rfl;have hblk:=ha.blk;have hb:=hblk.rule;unfold cJ at hb;by_cases h0:gk=0
  .subst h0;go_wp2_with fail;go_quiet (fail);go_wp2_with fail;refine WF (v:= .tuple #[]) (Wx rfl _ _ _) rfl ⟨rfl,?_⟩;exact (hP.drewN _).post HAT.out HTU.out HLA.out oA (.inl rfl)
  .obtain ⟨j,hj⟩:∃j,gk=j+1:=⟨gk-1,oA⟩;have hjn:j<r.fs.length:=oA;have hej:(gk:Int)-1=(j:Int):=oA;have hgl:gk<r.fs.length+1:=oA;have hp0:0<gk:=oA;have hp1:decide (0<gk)=true:=(by simpa using hp0);have hjl:j<r.fs.length+1:=oA;obtain ⟨ci0,ci1,ci2⟩:=ti hP.row gk (by rw [dZ];omega);obtain ⟨cj0,cj1,cj2⟩:=ti hP.row j (by rw [dZ];omega);rw [EY _ _ _ hle] at ci0 ci1 ci2;rw [yt _ _ _ _ hle oA] at cj0 cj1 cj2;have HS:=Hd (zQ r.fs f j hjn);have HJ:=Hd hj;obtain ⟨y,hy⟩:=Le (r.fs[j]);rw [<-hy] at cj0 cj1 cj2 HS;have HY:=Hd hy;clear hy hj;rw [dZ] at hb;cases t0:Op.bytesLess f.nm.toList y.nm.toList with
   |false=>
    go_wp2_with fail;go_quiet (fail);go_wp2_with fail;refine WF (v:= .tuple #[]) (Wx rfl _ _ _) rfl ⟨rfl,?_⟩;refine (hP.drewN _).post HAT.out HTU.out HLA.out oA (.inr ⟨oA,?_⟩);have e:gk-1=j:=(by have:=HJ.out;omega);simp only [e,<-HY.out];exact t0
   |true=>
    go_wp2_with fail;go_quiet (fail);go_upto_region 6 with (first|refine aa rfl 118 Ji (.tmp 5) _ rfl rfl rfl (Blk.new _ _ _) rfl rfl rfl ?_);refine af (fun W0=>Blk W0 wr.heap.size (aS f).toArray 118/\Below wr.heap.size wr W0) ⟨(Blk.new _ _ _).setRow _,cL⟩ ?_;rintro w5 ⟨hx5,hb5⟩;have hgw:g<wr.heap.size:=(hP.row.block_lt rfl).2.1;have hP5:=hP.old hb5;have ha5:=hP5.at HAT.out rfl rfl rfl;have hd5:=ha5.blk;unfold cJ at hd5;have hbd5:=hd5.rule 0;rw [dZ] at hbd5;obtain ⟨_,_,old5,hold5⟩:=hP5.row.block_lt rfl;have HO6:=Hd (Own.store3 (w:=w5.drew) (hP5.row.keepAt fun _ _=>rfl) hold5 gk (by rw [dZ];omega) y);have ho6:=HO6.out.2;obtain ⟨dj0,dj1,dj2⟩:=ti hP5.row j (by rw [dZ];omega);rw [yt _ _ _ _ hle oA,<-HY.out] at dj0 dj1 dj2;have hrg:r.d≠g:=Blk.ne hd5 hold5 dcA;have HT0:=Hd t0;clear ci0 ci1 ci2 cj0 cj1 cj2 hb hblk ha t0 hp1;have l0:∀W,Old w5.drew W->W.cell? ⟨r.d,0,none⟩=some (.slice (some ⟨g,0,none⟩) (r.fs.length+1) c2):=fun W hW=>((hW:Below w5.drew.heap.size _ W).cell (p:=⟨r.d,0,none⟩) (VV w5 _ hbd5)).trans hbd5;have l1:∀W,Old w5.drew W->W.cell? ⟨g,j*3,none⟩=some (.string y.nm):=fun W hW=>((hW:Below w5.drew.heap.size _ W).cell (p:=⟨g,j*3,none⟩) (VV w5 _ dj0)).trans dj0;have l2:∀W,Old w5.drew W->W.cell? ⟨g,j*3+1,none⟩=some (.slice y.a y.b.length y.c):=fun W hW=>((hW:Below w5.drew.heap.size _ W).cell (p:=⟨g,j*3+1,none⟩) (VV w5 _ dj1)).trans dj1;have l3:∀W,Old w5.drew W->W.cell? ⟨g,j*3+2,none⟩=some (.int .i64 (y.sure:Int)):=fun W hW=>((hW:Below w5.drew.heap.size _ W).cell (p:=⟨g,j*3+2,none⟩) (VV w5 _ dj2)).trans dj2;have hw:IntKind.i64.wrap ((gk:Int)-1)=(j:Int):=(by rw [VZ];omega);have hjI:(j:Int)<(r.fs.length:Int)+1:=oA;have hgI:(gk:Int)<(r.fs.length:Int)+1:=oA;have hw2:IntKind.i64.wrap (j:Int)=(j:Int):=(by rw [VZ];omega);refine aj true Old Old.refl Old.trans (.step 0 (.step 1 (.step 2 (.step 3 (.step 4 (.step 5 (.step 6 (.step 7 (.step 8 (.step 9 (.step 10 (.step 11 (.step 12 (.step 13 (.step 14 .done))))))))))))))) krA krA cdA ?_
    repeat (first|refine tsA ?_|refine tqA ?_)
    refine az rfl rfl rfA (fun K hK=> ?_);refine bf 118 Ji (.tmp 66) (.tmp 65) rfl rfl rfl (show Blk w5.drew g old5 118 from hold5) rfl ho6 rfl ?_;refine hK _ _ ?_;refine ap ?_;clear hK K l0 l1 l2 l3;go_upto_region 7 with (fail);refine af (fun W0=>Blk W0 wr.heap.size (aS f).toArray 118/\Blk W0 r.d (cJ {r with fs:=gy r.fs f gk,la:=some ⟨g,0,none⟩,lc:=c2}) 49/\Own W0 B 118 3 (some ⟨g,0,none⟩) (r.fs.length+1) c2 (((gy r.fs f gk).set gk y).flatMap aS)/\aJ (fun x=>x=g) wr W0) ⟨?_,?_,HO6.out.1,?_⟩ ?_
    .exact Blk.setRow_other (w:=w5.drew) hx5 g _ oA
    .exact Blk.setRow_other (w:=w5.drew) ha5.blk g _ hrg
    .exact ⟨hb5.os,hb5.tape,hb5.output,by simpa [World.setRow] using hb5.size,fun k hk hn=>(WN w5.drew g k _ hn).trans (hb5.block k hk)⟩
    rintro w6 ⟨hx6,hd6,hO6,ht6⟩;clear ha5 hd5 hbd5 hold5 HO6 ho6 dj0 dj1 dj2 hP5 hx5 hb5;obtain ⟨_,_,old6,hold6⟩:=hO6.block_lt rfl;have HO7:=Hd (Own.store3 (w:=w6.drew) (hO6.keepAt fun _ _=>rfl) hold6 j (by rw [Xx,dZ];omega) f);have ho7:=HO7.out.2;have hbd6:=hd6.rule 0;unfold cJ at hbd6;rw [dZ] at hbd6;have hlx:=hx6.lt;have hxr:=hx6.rule;have m0:∀W,Old w6.drew W->W.cell? ⟨r.d,0,none⟩=some (.slice (some ⟨g,0,none⟩) (r.fs.length+1) c2):=fun W hW=>((hW:Below w6.drew.heap.size _ W).cell (p:=⟨r.d,0,none⟩) hd6.lt).trans hbd6;have m1:∀W,Old w6.drew W->W.cell? ⟨wr.heap.size,0,none⟩=some (.string f.nm):=fun W hW=>((hW:Below w6.drew.heap.size _ W).cell (p:=⟨wr.heap.size,0,none⟩) hlx).trans (hxr 0);have m2:∀W,Old w6.drew W->W.cell? ⟨wr.heap.size,1,none⟩=some (.slice f.a f.b.length f.c):=fun W hW=>((hW:Below w6.drew.heap.size _ W).cell (p:=⟨wr.heap.size,1,none⟩) hlx).trans (hxr 1);have m3:∀W,Old w6.drew W->W.cell? ⟨wr.heap.size,2,none⟩=some (.int .i64 (f.sure:Int)):=fun W hW=>((hW:Below w6.drew.heap.size _ W).cell (p:=⟨wr.heap.size,2,none⟩) hlx).trans (hxr 2);clear hxr hbd6;refine aj true Old Old.refl Old.trans (.step 0 (.step 1 (.step 2 (.step 3 (.step 4 (.step 5 (.step 6 (.step 7 (.step 8 .done))))))))) krA krA cdA ?_
    repeat (first|refine tsA ?_|refine tqA ?_)
    refine az rfl rfl rfA (fun K hK=> ?_);refine bf 118 Ji (.tmp 74) (.tmp 73) rfl rfl rfl (show Blk w6.drew g old6 118 from hold6) rfl ho7 rfl ?_;refine hK _ _ ?_;refine ap ?_;clear hK K m0 m1 m2 m3;go_wp2_with fail;go_roundg j
    case measure=>omega
    case rel=>
     refine ⟨gnA,oA,?_,?_,?_⟩
     .have h7:=HO7.out.1;have e:=HS.out;rw [<-HJ.out] at e;rw [e] at h7;exact h7
     .refine hP.turn.trans (G:=fun x=>x=g) ⟨ht6.os,ht6.tape,ht6.output,by simpa [World.setRow] using ht6.size,fun k hk hn=>(WN w6.drew g k _ hn).trans (ht6.block k hk hn)⟩ (fun k hk=> .inl hk)
     .intro q hq hjq;by_cases e:q=j
      .subst e;have:=HT0.out;rw [HY.out] at this;exact this
      .exact hP.more q hq (by have:=HJ.out;omega)
theorem ni:∀(x y:List UInt8),Op.bytesLess x y=decide (x<y)
 | [],[]=>by simp [Op.bytesLess]
 |_::_,[]=>by simp [Op.bytesLess]
 | [],_::_=>by simp [Op.bytesLess]
 |a::x,b::y=>by
  rw [Op.bytesLess,ni x y];simp only [List.cons_lt_cons_iff];by_cases h1:a<b<;>by_cases h2:a=b<;>by_cases h3:x<y<;>simp [h1,h2,h3]
def leN (x y:bz):Prop:=qN y x=false
theorem Ci (x y:bz):leN x y↔x.toList<=y.toList:=by
 unfold leN qN;rw [ni,decide_eq_false_iff_not,List.not_lt]
theorem wH {x y:bz} (h:qN x y=true):leN x y:=by
 rw [Ci];unfold qN at h;rw [ni,Xq] at h;exact List.not_lt.1 (List.lt_asymm h)
theorem Ch {x y z:bz} (h:leN x y) (h':leN y z):leN x z:=by
 rw [Ci] at*;exact List.le_trans h h'
def jg (l:List bz):Prop:=l.Pairwise leN
theorem jg.ins {l:List bz} (h:jg l) (f:bz) {i:Nat} (hi:i<=l.length) (h1:i=0\/∃hq:i-1<l.length,qN f l[i-1]=false) (h2:∀j (hj:j<l.length),i<=j->qN f l[j]=true):jg (gy l f i):=by
 unfold jg gy;rw [List.pairwise_append,List.pairwise_cons];have hd:(l.take i++l.drop i).Pairwise leN:=(by rw [WW];exact h);rw [List.pairwise_append] at hd;have hb:∀a∈l.take i,leN a f:=by
  intro a ha;obtain ⟨j,hj,rfl⟩:=XR ha;have hj2:j<i/\j<l.length:=(by rw [ltA] at hj;omega);rcases h1 with h1|⟨hq,h1⟩
  .omega
  .rw [List.getElem_take];have hl:leN l[i-1] f:=h1;by_cases e:j=i-1
   .subst e;exact hl
   .exact Ch (List.pairwise_iff_getElem.1 h j (i-1) hj2.2 hq oA) hl
 refine ⟨hd.1,⟨fun a ha=> ?_,hd.2.1⟩,fun a ha b hb'=> ?_⟩
 .obtain ⟨j,hj,rfl⟩:=XR ha;rw [List.getElem_drop];exact wH (h2 _ _ oA)
 .rcases Ve.1 hb' with rfl|hb'
  .exact hb a ha
  .exact hd.2.2 a ha b hb'
structure FL (p q:aM):Prop where
 fs:p.fs.Perm q.fs
 rest:p.down=q.down/\p.armed=q.armed/\p.left=q.left/\p.plan=q.plan
theorem FL.refl (p:aM):FL p p:=⟨List.Perm.refl _,rfl,rfl,rfl,rfl⟩
def di.names (r:di):List bz:=r.fs.map (·.nm)
theorem Gs {fs:List cQ} {k:Nat} (hk:k<fs.length) (hn:(fs.map (·.nm)).Nodup):fs.eraseIdx k=fs.filter (fun f=>f.nm≠fs[k].nm):=by
 induction fs generalizing k with
 |nil=>simp at hk
 |cons x l ih=>
  simp only [WY,XH] at hn;cases k with
  |zero=>
   rw [List.eraseIdx_cons_zero,List.getElem_cons_zero,List.filter_cons_of_neg skA];symm;rw [List.filter_eq_self];intro a ha;simp only [ne_eq,Xq];exact fun e=>hn.1 (e▸WX (f:=fun x:cQ=>x.nm) ha)
  |succ k=>
   have hk':k<l.length:=(by simpa using hk);rw [List.eraseIdx_cons_succ,List.getElem_cons_succ,List.filter_cons_of_pos,ih hk' hn.2];simp only [ne_eq,Xq];exact fun e=>hn.1 (e▸WX (f:=fun x:cQ=>x.nm) (VE hk'))
theorem qx.step {B:Nat} {w0 w w':World} {r0 r:di} {f:cQ} (h0:de B w0 r0 w r) (hp:qx B w r f w') (hf:∀ad,f.a=some ad->ig r0 ad.block\/w0.heap.size<=ad.block):
  ∃r',de B w0 r0 w' r'/\FL r'.p {r.p with fs:=r.p.fs++ [f.p]}/\(jg r.names->jg r'.names):=by
 obtain ⟨i,la,lc,hi,h1,h2,ha,ht,hl⟩:=hp;have hperm:=rC r.fs f i;have hz:=h0.turn.size;refine ⟨_,⟨h0.turn.trans (ht.mono (G:=ig r) fun x hx=> ?_) h0.foot',ha,?_,h0.d⟩,⟨?_,rfl,rfl,rfl,rfl⟩,fun hs=> ?_⟩
 .rcases hx with hx|hx
  .exact .inl hx
  .exact .inr (.inl hx)
 .rintro x (hx|⟨ad,h3,rfl⟩|⟨q,hq,ad,h3,rfl⟩|hx)
  .exact h0.foot' _ (.inl hx)
  .rcases hl ad h3 with ⟨ad',h4,h5⟩|h4
   .exact h0.foot' _ (.inr (.inl ⟨ad',h4,h5⟩))
   .exact .inr (At hz h4)
  .have hq':=hperm.mem_iff.1 hq;rcases VQ.1 hq' with hq'|hq'
   .exact h0.foot' _ (.inr (.inr (.inl ⟨q,hq',ad,h3,rfl⟩)))
   .rw [VH.1 hq'] at h3;exact hf ad h3
  .exact h0.foot' _ (.inr (.inr (.inr hx)))
 .have:=hperm.map cQ.p;simpa [di.p] using this
 .have e:(gy r.fs f i).map (·.nm)=gy (r.fs.map (·.nm)) f.nm i:=by
   unfold gy;simp [WE,List.map_drop]
  show jg ((gy r.fs f i).map (·.nm));rw [e];refine jg.ins (l:=r.fs.map cQ.nm) hs f.nm (by simpa using hi) ?_ ?_
  .rcases h1 with h1|⟨hq,h1⟩
   .exact .inl h1
   .exact .inr ⟨by simpa using hq,by simpa using h1⟩
  .intro j hj hij;have:=h2 j (by simpa using hj) hij;simpa using this
def xl (B:Nat) (w:World) (r:di) (p:aM) (w':World):Prop:=∃r',FL r'.p p/\de B w r w' r'/\(jg r.names->jg r'.names)
theorem xl.refl {B:Nat} {w:World} {r:di} {p:aM} (h:db w B r) (hp:p=r.p):xl B w r p w:=⟨r,hp▸FL.refl _,de.refl h,id⟩
theorem Fg (r:di) (nm:bz):((eW r.p nm).isSome=true/\decide ((0:Int)<=gC r.fs nm)=true)\/((eW r.p nm).isSome=false/\decide ((0:Int)<=gC r.fs nm)=false/\∀f∈r.fs,f.nm≠nm):=by
 rcases pG r.fs nm with ⟨k,hk,h1,h2,h3⟩|⟨h1,h2,h3⟩
 .refine .inl ⟨?_,by rw [h2];simp⟩;show ((r.fs.map cQ.p).find? _).isSome=true;have e:(r.fs.map cQ.p).find? (fun f=>f.name=nm)=some r.fs[k].p:=h3;rw [e];rfl
 .refine .inr ⟨?_,by rw [h2];rfl,h1⟩;show ((r.fs.map cQ.p).find? _).isSome=false;have e:(r.fs.map cQ.p).find? (fun f=>f.name=nm)=none:=h3;rw [e];rfl
theorem KK {r:di} {f:cQ} (h:dN r.p) (hn:∀q∈r.fs,q.nm≠f.nm) (hk:cZ f.nm=true) (hs:f.sure<=f.b.length) (hb:f.b.length<=fh) (hc:r.fs.length<64):dN (di.p {r with fs:=r.fs++ [f]}):=by
 have hall:∀q∈(r.fs++ [f]).map cQ.p,q∈r.p.fs\/q=f.p:=fun q hq=>by
  rw [VG] at hq;rcases VQ.1 hq with hq|hq
  .exact .inl hq
  .exact .inr (by simpa using hq)
 refine ⟨?_,fun q hq=> ?_,fun q hq=> ?_,fun q hq=> ?_,?_,h.left⟩
 .show (((r.fs++ [f]).map cQ.p).map (·.name)).Nodup;rw [VG,VG,XE];refine ⟨h.names,skA,?_⟩;intro a ha b hb' e;obtain ⟨q,hq,rfl⟩:=VY.1 ha;obtain ⟨q0,hq0,rfl⟩:=VY.1 hq;simp only [WY,XF,VH] at hb';exact hn q0 hq0 (e.trans hb')
 .rcases hall q hq with hq|rfl
  .exact h.named q hq
  .exact hk
 .rcases hall q hq with hq|rfl
  .exact h.sure q hq
  .exact hs
 .rcases hall q hq with hq|rfl
  .exact h.size q hq
  .exact hb
 .show ((r.fs++ [f]).map cQ.p).length<=64;simp;omega
theorem uj (w:World) (B:Nat) (r:di) (nm:bz) (h:db w B r) (hB:B<=w.heap.size):
  Calls prog 17 #[.pointer (some ⟨r.d,0,none⟩),.string nm] w fun e w'=>e= .returned (.int .i64 (ew r.p nm).2)/\xl B w r (ew r.p nm).1 w':=by
 have hb:=h.blk.rule;unfold cJ at hb;have hlen:r.p.fs.length=r.fs.length:=(by simp [di.p]);cases hdn:r.down with
 |true=>
  rw [hdn] at hb;have HR:=Hd (show ew r.p nm=(r.p,5) by unfold ew;rw [if_pos (show r.p.down=true from hdn)]);go_enter func17,ntmps17;go_wp2_with fail;go_ret;exact ⟨by rw [HR.out];first|rfl|simp,by rw [HR.out];exact xl.refl h rfl⟩
 |false=>
  rw [hdn] at hb;have hd:¬r.p.down=true:=(by simp [di.p,hdn]);cases hok:cZ nm with
  |false=>
   have HR:=Hd (show ew r.p nm=(r.p,2) by unfold ew;rw [if_neg hd,if_pos hok]);have hnm:=ri nm w;rw [hok] at hnm;clear hd hok hdn;go_enter func17,ntmps17;go_wp2_with fail;refine hnm.mono ?_;rintro e w' ⟨rfl,rfl⟩;go_wp2_with fail;go_ret;exact ⟨by rw [HR.out];first|rfl|simp,by rw [HR.out];exact xl.refl h rfl⟩
  |true=>
   have hnm:=ri nm w;rw [hok] at hnm;have hfi:=um w B r nm h;rcases Fg r nm with ⟨h1,h2⟩|⟨h1,h2,h3⟩
   .have HR:=Hd (show ew r.p nm=(r.p,101) by unfold ew;rw [if_neg hd,if_neg (by rw [hok];decide),if_pos h1]);clear hd hok hdn h1;go_enter func17,ntmps17;go_wp2_with fail;refine hnm.mono ?_;rintro e w' ⟨rfl,rfl⟩;go_wp2_with fail;refine hfi.mono ?_;rintro e w'' ⟨rfl,rfl⟩;go_wp2_with fail;go_ret;exact ⟨by rw [HR.out];first|rfl|simp,by rw [HR.out];exact xl.refl h rfl⟩
   .by_cases hfull:64<=r.fs.length
    .have HR:=Hd (show ew r.p nm=(r.p,100) by unfold ew;rw [if_neg hd,if_neg (by rw [hok];decide),if_neg (by rw [h1];decide),if_pos (by rw [hlen];exact hfull)]);have t0:decide ((64:Int)<=(r.fs.length:Int))=true:=soA;clear hd hok hdn h1 h3 hlen;go_enter func17,ntmps17;go_wp2_with fail;refine hnm.mono ?_;rintro e w' ⟨rfl,rfl⟩;go_wp2_with fail;refine hfi.mono ?_;rintro e w'' ⟨rfl,rfl⟩;go_wp2_with fail;go_ret;exact ⟨by rw [HR.out];first|rfl|simp,by rw [HR.out];exact xl.refl h rfl⟩
    .have HR:=Hd (show ew r.p nm=({r.p with fs:=r.p.fs++ [⟨nm,[],0⟩]},0) by unfold ew;rw [if_neg hd,if_neg (by rw [hok];decide),if_neg (by rw [h1];decide),if_neg (by rw [hlen];exact hfull)]);have hput:=Ef w B r ⟨nm,none,0,[],0⟩ h hB (Own.nil _ _ _ _) (KK h.ok h3 hok (Lt _) (Vo _) oA);have t0:decide ((64:Int)<=(r.fs.length:Int))=false:=soA;clear hd hok hdn h1 h3 hlen;go_enter func17,ntmps17;go_wp2_with fail;refine hnm.mono ?_;rintro e w' ⟨rfl,rfl⟩;go_wp2_with fail;refine hfi.mono ?_;rintro e w'' ⟨rfl,rfl⟩;go_wp2_with fail;refine hput.mono ?_;rintro e w1 ⟨rfl,hp⟩;go_wp2_with fail;go_ret;refine ⟨by rw [HR.out];first|rfl|simp,?_⟩;rw [HR.out];obtain ⟨r',q1,q2,q3⟩:=qx.step (de.refl h) hp (fun ad ha=>by cases ha);exact ⟨r',q2,q1,q3⟩
theorem qg:∀{ys:List bJ} {f:bJ},f∈ys->(ys.map (·.nm)).Nodup->(f::ys.filter fun g=>decide (g.nm≠f.nm)).Perm ys
 |x::l,f,hf,hn=>by
  simp only [WY,XH] at hn;rcases Ve.1 hf with rfl|hf'
  .rw [List.filter_cons_of_neg skA,List.filter_eq_self.2];intro g hg;refine VO fun e=>hn.1 ?_;rw [<-e];exact WX (f:=fun x:bJ=>x.nm) hg
  .have hx:¬x.nm=f.nm:=fun e=>hn.1 (by rw [e];exact WX (f:=fun x:bJ=>x.nm) hf');rw [List.filter_cons_of_pos (by simpa using hx)];exact (List.Perm.swap _ _ _).trans ((qg hf' hn.2).cons x)
end
section
open Go.RowKit Go.Maps Go.Shelf
theorem But.turned {w w':World} {b:Nat} (h:w.mapTurned w' b):But b w w':=⟨h.grown.size,fun x hx hne=>h.grown.block x hx (by simpa using hne)⟩
end
end Go.Proofs.YtioigihakjlopaaGreat
