import Derived.Test.YtioigihakjlopaaGreatVF07
namespace Go.Proofs.YtioigihakjlopaaGreat
open Go.Proofs.Tryz
set_option linter.unusedVariables false
set_option linter.unusedSimpArgs false
set_option maxHeartbeats 16000000
set_option maxRecDepth 100000
section
open Go.RowKit
theorem aJ.of_ge {n:Nat} {a b:World} (h:Below n a b):aJ (fun x=>n<=x) a b:=⟨h.os,h.tape,h.output,h.size,fun k _ hk=>h.block k oA⟩
theorem Own.head {w:World} {B:Nat} {e:TypeId} {size:Nat} {a:Option Addr} {n c:Nat} {vs:List Value} (h:Own w B e size a n c vs) (hn:0<n):∃g,a=some ⟨g,0,none⟩:=by
 obtain ⟨g,_,h1,_⟩:=h.blk hn;exact ⟨g,h1⟩
theorem Es {bs:List UInt8} {a:Nat} {n:Int} {b:Nat} (h:bB bs a= .ok (n,b)):eO n:=by
 unfold bB at h;split at h
 .cases h
 .cases h;exact qX _
theorem mq (l:List bK):(l.flatMap bK.cells).length=l.length*2:=by
 induction l with
 |nil=>rfl
 |cons x l ih=>rw [Vh,laA,ih,VT];show 2+_=_;omega
theorem KY (w:World) (B:Nat) (q:RC) (xb i:Nat) (cs:Array Value) (t:TypeId) (v:Int) (hq:RAt w B q) (hB:B<=w.heap.size) (hx:Blk w xb cs t) (hi:yO cs i (bi v)) (hxB:B<=xb) (hxc:xb≠q.c):
  Calls prog 148 #[.pointer (some ⟨q.c,0,none⟩),.pointer (some ⟨xb,i,none⟩)] w (JP B w q (bB q.bs q.at_) (fun n=>dX cs i (bi n)) xb t):=by
 refine (BQ w B q xb i cs t v hq hB hx (hi 0 (by show 0<1;omega)) hxB hxc).mono ?_;rintro e w' ⟨h1,h2⟩;unfold bB;split
 .rename_i h;exact h1 h
 .rename_i h;exact h2 oA
theorem wl:bu prog 36 157 2 16:=bu.mk (z:= .agg #[.int .i64 0,.int .i64 0]) underlying36 krA rfl oA
theorem rB:bu prog 34 3 1 8:=bu.mk (z:= .int .i64 0) underlying34 krA rfl oA
theorem Own.last {w w':World} {B:Nat} {e:TypeId} {sz g n c:Nat} {xs ys zs:List Value} {cur:Array Value} (h:Own w B e sz (some ⟨g,0,none⟩) n c (xs++zs)) (hb:Blk w g cur e) (hb':Blk w' g (dX cur xs.length ys) e) (hl:ys.length=zs.length):Own w' B e sz (some ⟨g,0,none⟩) n c (xs++ys):=by
 obtain ⟨h1,h2⟩:=h;refine ⟨by rw [laA,hl,<-laA];exact h1,?_⟩;rcases h2 with ⟨h2,_⟩|⟨g',cap,cur',hv,hB,hg,h3,h4,h5,h6⟩
 .simp at h2
 .simp only [VC,Vn,Xk,and_true,true_and] at hv;obtain ⟨rfl,rfl⟩:=hv;have e0:cur'=cur:=by
   have h7:w.heap[g]? =_:=hb;rw [hg] at h7;simpa using h7
  subst e0;refine .inr ⟨g,c,dX cur' xs.length ys,rfl,hB,hb',h3,h4,by rw [eT];exact h5,?_⟩;have hle:n*sz<=cur'.size:=by
   rw [h5];exact WZ _ h3
  rw [laA] at h1;apply List.ext_getElem?;intro j;by_cases hj:j<n*sz
  .rw [WK hj,WO];by_cases hx:j<xs.length
   .rw [gS _ _ _ _ (.inl hx),Vm hx];have:=WG (fun l:List Value=>l[j]?) h6;simp only [WK hj,WO,Vm hx] at this;exact this
   .have:=mZ ys cur' xs.length (j-xs.length) oA oA;rw [show xs.length+(j-xs.length)=j by omega] at this;rw [this,WU oA,Vx oA]
  .rw [WL (by rw [ltA];omega),WL (by rw [laA];omega)]
def Ka {α:Type} (B:Nat) (w:World) (q:RC) (r:Rd α) (Ow:World->Sl->α->Prop) (f:Sl->Array Value) (xb:Nat) (t:TypeId) (e:Ending) (w':World):Prop:=match r with
 | .error p=>e= .panicked (lU p)/\gq w q w' xb t
 | .ok (l,a)=>e= .returned (.tuple #[])/\∃s,Ow w' s l/\lO B w q w' (q.to a) xb (f s) t
section
variable {α:Type} {B:Nat} {w w':World} {q:RC} {r:Rd α} {Ow:World->Sl->α->Prop} {f:Sl->Array Value} {xb:Nat} {t:TypeId} {e:Ending}
theorem Ka.err (h:Ka B w q r Ow f xb t e w') {p:Nat} (hr:r= .error p):e= .panicked (lU p)/\gq w q w' xb t:=by subst hr;exact h
theorem Ka.ok (h:Ka B w q r Ow f xb t e w') {v:α} {a:Nat} (hr:r= .ok (v,a)):e= .returned (.tuple #[])/\∃s,Ow w' s v/\lO B w q w' (q.to a) xb (f s) t:=by subst hr;exact h
end
def yN (w:World) (B:Nat) (q:RC) (xb i:Nat) (cs:Array Value) (t:TypeId) (N:Nat) (R0:Rd (List Int)) (f:Nat) (v50:Value) (wr:World):Prop:=
 ∃(k:Nat) (s:Sl) (l:List Int) (a:Nat),k+f=N/\v50= .int .i64 (k:Int)/\Own wr w.heap.size 3 1 s.a k s.c (l.map (Value.int .i64))/\s.n=k/\l.length=k/\(∀x∈l,eO x)/\RAt wr B (q.to a)/\Blk wr xb (cs.setIfInBounds i (.slice s.a k s.c)) t/\
  aJ (fun x=>x=q.c\/x=xb) w wr/\R0=(match bC (bB q.bs) (N-k) a with
   | .error p=> .error p
   | .ok (m,b)=> .ok (l++m,b))
theorem zO (w:World) (B:Nat) (q:RC) (xb i:Nat) (cs:Array Value) (t:TypeId) (s0:Sl) (hq:RAt w B q) (hB:B<=w.heap.size) (hx:Blk w xb cs t) (hi:cs[i]? =some (.slice s0.a s0.n s0.c)) (hxB:B<=xb) (hxc:xb≠q.c):
  Calls prog 147 #[.pointer (some ⟨q.c,0,none⟩),.pointer (some ⟨xb,i,none⟩),.int .i64 8,.func (.func 148) #[.pointer (some ⟨q.c,0,none⟩)] #[]] w (Ka B w q (gA q.bs q.at_) (fun W=>av W w.heap.size) (fun s=>cs.setIfInBounds i (.slice s.a s.n s.c)) xb t):=by
 have hxl:=hx.lt;have hcl:=hq.blk.lt;have hmx:=hq.max;obtain ⟨sa,sn,sc⟩:=s0;dsimp only at hi;go_enter func147,ntmps147;go_wp2_with fail;have r1:∀W,Old w.drew W->W.cell? ⟨q.c,1,none⟩=some (.int .i64 (q.at_:Int)):=fun W hW=>(by rw [hW.cell (p:=⟨q.c,1,none⟩) hcl];exact hq.blk.rule 1);have r2:∀W,Old w.drew W->W.cell? ⟨xb,i,none⟩=some (.slice sa sn sc):=fun W hW=>(by rw [hW.cell (p:=⟨xb,i,none⟩) hxl];exact (hx.rule i).trans hi);refine aj true Old Old.refl Old.trans (.step 0 (.step 1 (.step 2 (.step 3 (.step 4 (.step 5 (.step 6 (.step 7 (.step 8 (.step 9 (.step 10 .done))))))))))) krA krA cdA ?_
 repeat (first|refine tsA ?_|refine tqA ?_)
 refine an rfl rfl rfA (fun K hK=> ?_);go_wp2_with fail;refine hK _ _ ((AT _ _).alloc (Lt _) _) ?_;clear hK K r1 r2
 repeat (first|refine tsA ?_|refine tqA ?_)
 refine az rfl rfl rfA (fun K hK=> ?_);go_wp2_with fail;refine ap ?_;go_upto_region 1 with (fail);obtain ⟨Y,hY⟩:=Le w.heap.size;rw [<-hY];refine af (fun W=>(∃y:Int,Blk W Y #[.int .i64 y] 3)/\Below w.heap.size w W) ⟨⟨_,by rw [hY];exact (Blk.new w _ _).drew⟩,cL⟩ ?_;rintro W1 ⟨⟨y0,hn1⟩,hb1⟩;have hYB:B<=Y:=oA;have hYc:Y≠q.c:=oA;have hYx:xb≠Y:=oA;have hB1:=At hB hb1.size;have hq1:=hq.old hb1 hB;have cb:=BQ W1 B q Y 0 _ _ _ hq1 hB1 hn1 rfl hYB hYc;have hx1:=hx.old hb1;have HY:=Hd hY;clear hY;go_wp2_with fail;refine cb.mono ?_;clear cb;rintro e w2 ⟨h1,h2⟩;by_cases hmore:q.at_+8<=q.bs.length
 .obtain ⟨rfl,hg⟩:=h2 hmore;clear h1 h2;have e0:bB q.bs q.at_= .ok (gK q.bs q.at_,q.at_+8):=(by unfold bB;rw [if_neg oA];rfl);have cn:=hg.blk.rule;have wfn:=gH q.bs q.at_;obtain ⟨n,hn⟩:=Le (gK q.bs q.at_);have cn2:w2.cell? ⟨Y,0,none⟩=some (.int .i64 n):=(by rw [hn];exact cn 0);have hn2:Blk w2 Y #[.int .i64 n] 3:=(by rw [hn];exact hg.blk);rw [<-hn] at e0 wfn;have hbel2:gq w q w2 xb t:=lO.loc hb1 hg (VR HY.out.symm) rfl hxc hxl;have hq2:RAt w2 B (q.to (q.at_+8)):=hg.at';have hx2:Blk w2 xb cs t:=(hg.turn.block xb (VF hxl hb1.size) (by rintro (h|h);exact hxc h;exact hYx h)).trans hx1;have ht2:aJ (fun x=>x=q.c\/x=xb) w w2:=(aJ.of_below (F:=fun x=>x=q.c\/x=xb) hb1).trans hg.turn fun x hx=>by
   rcases hx with rfl|rfl
   .exact .inl (.inl rfl)
   .exact .inr (by have:=HY.out;omega)
  have cc:=hq2.blk.rule;unfold gR at cc;have hcc:(q.to (q.at_+8)).c=q.c:=rfl;have hca:(q.to (q.at_+8)).at_=q.at_+8:=rfl;have hcb:(q.to (q.at_+8)).bs=q.bs:=rfl;have hcx:(q.to (q.at_+8)).a=q.a:=rfl;have hcp:(q.to (q.at_+8)).cap=q.cap:=rfl;rw [hcc,hca,hcb,hcx,hcp] at cc;have hsub:IntKind.i64.wrap ((q.bs.length:Int)-((q.at_+8:Nat):Int))=(q.bs.length:Int)-((q.at_+8:Nat):Int):=(by rw [VZ];omega);clear cn hn hn1 hg;have HX2:=Hd hx2;have HT2:=Hd ht2;go_upto_region 3 with (fail);by_cases o1:n<0
  .have d1:decide (n<0)=true:=soA;have HR:=Hd (show gA q.bs q.at_= .error q.at_ by unfold gA ik;rw [e0];dsimp only;rw [if_pos (.inl o1)]);have HB2:=Hd hbel2;go_quiet (fail);go_wp2_with fail;refine ⟨rfl,?_⟩;rw [HR.out];exact ⟨rfl,HB2.out.drewN _⟩
  .have d1:decide (n<0)=false:=soA;have hdv:((q.bs.length:Int)-((q.at_+8:Nat):Int)).tdiv 8=((q.bs.length:Int)-((q.at_:Int)+8))/8:=by
    rw [WH oA];rfl
   by_cases o2:((q.bs.length:Int)-((q.at_:Int)+8))/8<n
   .have d2:decide (((q.bs.length:Int)-((q.at_:Int)+8))/8<n)=true:=(by simpa using o2);have HR:=Hd (show gA q.bs q.at_= .error q.at_ by unfold gA ik;rw [e0];dsimp only;rw [if_pos (.inr (by rw [show ((((8:Nat):Int)))=(8:Int) from rfl,hdv];exact o2))]);have HB2:=Hd hbel2;clear o2 hdv;go_quiet (fail);go_wp2_with fail;refine ⟨rfl,?_⟩;rw [HR.out];exact ⟨rfl,HB2.out.drewN _⟩
   .have d2:decide (((q.bs.length:Int)-((q.at_:Int)+8))/8<n)=false:=(by simpa using o2);obtain ⟨N,hN⟩:∃N:Nat,n=(N:Int):=⟨n.toNat,oA⟩;have hNl:N<=200000:=oA;have HR:=Hd (show gA q.bs q.at_=bC (bB q.bs) N (q.at_+8) by
     unfold gA ik;rw [e0];dsimp only;rw [if_neg (by rw [show ((((8:Nat):Int)))=(8:Int) from rfl,hdv];omega),hN];rfl)
    subst hN;clear o2 hdv e0;go_quiet (fail);go_upto_region 5 with (fail);refine af (fun W=>Blk W xb cs t/\RAt W B (q.to (q.at_+8))/\aJ (fun x=>x=q.c\/x=xb) w W/\Blk W Y #[.int .i64 (N:Int)] 3) ⟨HX2.out,hq2.keep rfl (bW (AT _ _) _),HT2.out.drewN _,hn2⟩ ?_;clear hx2 ht2 hq2 hn2 cn2 hbel2 cc HX2 HT2;rintro w3 ⟨hx3,hq3,ht3,hn3⟩;have cx3:=hx3.rule i;rw [hi] at cx3;have fx3:=hx3.free;have cn3:=hn3.rule;have hst:yN w B q xb i cs t N (bC (bB q.bs) N (q.at_+8)) N (.int .i64 0) (w3.setCell ⟨xb,i,none⟩ (.slice none 0 0)):=by
     refine ⟨0,⟨none,0,0⟩,[],q.at_+8,oA,rfl,Own.nil _ _ _ _,rfl,rfl,skA,hq3.keep (VU _ _ _ _ (Vf hxc)) ((AT _ _).setCell hxB _),hx3.set i _,ht3.setCell (.inl (.inr rfl)) _,?_⟩;rw [Nat.sub_zero];cases bC (bB q.bs) N (q.at_+8) with
     |error p=>rfl
     |ok v=>rfl
    go_wp2_with fail;go_loopg [50] N (yN w B q xb i cs t N (bC (bB q.bs) N (q.at_+8)))
    case atStart=>exact hst
    case round=>
     clear hst cx3 fx3 cn3 hx3 hq3 ht3 hn3;obtain ⟨k,s,l,a,hk,rfl,hown,hsn,hll,hwf,hqr,hxr,htr,hR⟩:=hrel;have HRR:=Hd hR;clear hR;by_cases hlt:k<N
     .have t0:decide ((k:Int)<(N:Int))=true:=soA;have cx:=hxr.rule i;rw [Vl,if_pos rfl,if_pos (by have:=VK.1 hi;exact this.1)] at cx;have fx:=hxr.free;have cc:=hqr.blk.rule;unfold gR at cc;have hcc:(q.to a).c=q.c:=rfl;rw [hcc] at cc;have hzr:=htr.size;have hA:=hown.alloc (.cells #[.int .i64 0] 3);go_wp2_with (at_builtin;refine al rfl _ _ 34 rfl rB rfl hA rfl (aw.new' _ _ _ _ rfl) rfA (by exact dg _ rfl) mxA oA soA ?_);intro a2 c2 w4 hown4 hg4;have hb4:Below w.heap.size wr w4:=hA.grown ((AT _ _).alloc hzr _) (Lt _) hg4 soA;have hx4:=(hb4.block xb hxl).trans hxr;replace hx4:Blk w4 xb _ t:=hx4;have cx4:=hx4.rule i;rw [Vl,if_pos rfl,if_pos (by have:=VK.1 hi;exact this.1)] at cx4;have fx4:=hx4.free;go_upto_region 12 with (fail);refine af (fun W=>Blk W xb (cs.setIfInBounds i (.slice a2 (k+1) c2)) t/\RAt W B (q.to a)/\Own W w.heap.size 3 1 a2 (k+1) c2 (l.map (Value.int .i64)++bi 0)/\aJ (fun x=>x=q.c\/x=xb) w W) ⟨?_,?_,?_,?_⟩ ?_
      .have:=hx4.set i (.slice a2 (k+1) c2);rw [Array.setIfInBounds_setIfInBounds] at this;exact this
      .exact hqr.keep ((VU _ _ _ _ (Vf hxc)).trans (hb4.block q.c hcl)) ((hb4.mono hB).trans ((AT _ _).setCell hxB _))
      .exact hown4.setCell_lt _ _ hxl
      .exact (htr.trans (aJ.of_ge hb4) fun x hx=> .inr hx).setCell (.inl (.inr rfl)) _
      clear cx fx cc cx4 fx4 hx4 hown4 hg4 hb4 hA hown hxr hqr htr;rintro w5 ⟨hx5,hq5,hown5,ht5⟩;have hz5:=ht5.size;have hB5:=At hB hz5;obtain ⟨g,hgd⟩:=hown5.head oA;subst hgd;obtain ⟨hgw,_,cur,hcur⟩:=hown5.block_lt rfl;replace hcur:Blk w5 g cur 3:=hcur;replace hgw:w.heap.size<=g:=hgw;have hvl:(l.map (Value.int .i64)).length=k*1:=(by rw [lmA,hll,Vk]);have hrow:yO cur (k*1) (bi 0):=fun j hj=>by
       obtain ⟨b',o',e1,e2⟩:=hown5.row (k*1+j) (by rw [laA,hvl];omega);cases e1;rw [VS] at e2;have e3:=hcur.rule (k*1+j);rw [e2,List.getElem_append_right oA] at e3;rw [<-e3];simp [hvl]
      have cx5:=hx5.rule i;rw [Vl,if_pos rfl,if_pos (by have:=VK.1 hi;exact this.1)] at cx5;have hgc:g≠q.c:=oA;have hgx:xb≠g:=oA;have cb:=KY w5 B (q.to a) g (k*1) cur 3 0 hq5 hB5 hcur hrow (by show B<=g;omega) hgc;have hcc:(q.to a).c=q.c:=rfl;rw [hcc] at cb;rw [Vk] at cb;go_wp2_with fail;refine cb.mono ?_;clear cb;rintro e w6 hres;obtain ⟨m,hm⟩:∃m,N-k=m+1:=⟨N-k-1,oA⟩;have hR2:=HRR.out;rw [hm] at hR2;cases hone:bB q.bs a with
      |error p=>
       obtain ⟨rfl,hbE⟩:=hres.err hone;have HR3:=Hd (show bC (bB q.bs) N (q.at_+8)= .error p by
        rw [hR2];simp only [bC,hone])
       have hx6:Blk w6 xb _ t:=(hbE.turn.block xb oA (by rintro (h|h);exact hxc h;exact hgx h)).trans hx5;have hbB:gq w q w6 xb t:=gq.of hx (ht5.trans hbE.turn fun x hx=>by
        rcases hx with rfl|rfl
        .exact .inl (.inl rfl)
        .exact .inr hgw) hx6 skA
       clear hres hR2 hone hx6;go_wp2_with fail;refine ⟨rfl,?_⟩;rw [HR.out,HR3.out];exact ⟨rfl,hbB⟩
      |ok va=>
       obtain ⟨v,a'⟩:=va;obtain ⟨rfl,hg6⟩:=hres.ok hone;have hvw:eO v:=Es hone;have hown6:=hown5.last (ys:=bi v) hcur (by rw [hvl];first|exact hg6.blk|(rw [Vk];exact hg6.blk)) rfl;have hx6:Blk w6 xb _ t:=(hg6.turn.block xb oA (by rintro (h|h);exact hxc h;exact hgx h)).trans hx5;have ht6:aJ (fun x=>x=q.c\/x=xb) w w6:=ht5.trans hg6.turn fun x hx=>by
        rcases hx with rfl|rfl
        .exact .inl (.inl rfl)
        .exact .inr hgw
       have hq6:RAt w6 B (q.to a'):=hg6.at';have HR3:=Hd (show bC (bB q.bs) N (q.at_+8)=(match bC (bB q.bs) (N-(k+1)) a' with
        | .error p=> .error p
        | .ok (m,b)=> .ok ((l++ [v])++m,b)) by
        rw [hR2,show N-(k+1)=m by omega];simp only [bC,hone];cases bC (bB q.bs) m a' with
        |error p=>rfl
        |ok y=>simp)
       clear hres hR2 hone hg6 hrow hcur cx5;go_wp2_with fail;go_roundg (gk-1)
       case measure=>omega
       case rel=>
        refine ⟨k+1,⟨some ⟨g,0,none⟩,k+1,c2⟩,l++ [v],a',oA,gnA,by simpa [bi] using hown6,rfl,by simp [hll],?_,hq6,hx6,ht6,HR3.out⟩;intro x hx;rcases VQ.1 hx with hx|hx
        .exact hwf x hx
        .rw [VH.1 hx];exact hvw
     .have hkN:k=N:=oA;have HR2:=Hd (show bC (bB q.bs) N (q.at_+8)= .ok (l,a) by
       rw [HRR.out,hkN,Nat.sub_self];simp [bC])
      have t0:decide ((k:Int)<(N:Int))=false:=soA;go_wp2_with fail;refine WF (v:= .tuple #[]) (Wx rfl _ _ _) rfl ?_;rw [HR.out,HR2.out];refine ⟨rfl,s,⟨by rw [hsn];exact hown,hown.row,by rw [hsn];exact hll,by rw [hsn];exact hown.le,hown.cap_le,by rw [hsn];omega,hwf⟩,hqr,htr,by show Blk wr xb (cs.setIfInBounds i (.slice s.a s.n s.c)) t;rw [hsn];exact hxr⟩
 .obtain ⟨rfl,hb2⟩:=h1 oA;have hbel2:gq w q w2 xb t:=gq.loc hb1 hb2 (VR HY.out.symm) rfl hxc hxl;have HR:=Hd (show gA q.bs q.at_= .error q.bs.length by unfold gA ik bB;rw [if_pos oA]);clear h1 h2;go_wp2_with fail;refine ⟨rfl,?_⟩;rw [HR.out];exact ⟨rfl,hbel2⟩
def vr (w:World) (B:Nat) (q:RC) (xb i:Nat) (cs:Array Value) (t:TypeId) (N:Nat) (R0:Rd (List bK)) (f:Nat) (v50:Value) (wr:World):Prop:=
 ∃(k:Nat) (s:Sl) (l:List bK) (a:Nat),k+f=N/\v50= .int .i64 (k:Int)/\Own wr w.heap.size 157 2 s.a k s.c (l.flatMap bK.cells)/\s.n=k/\l.length=k/\(∀x∈l,x.wf)/\RAt wr B (q.to a)/\Blk wr xb (cs.setIfInBounds i (.slice s.a k s.c)) t/\
  aJ (fun x=>x=q.c\/x=xb) w wr/\R0=(match bC (fi q.bs) (N-k) a with
   | .error p=> .error p
   | .ok (m,b)=> .ok (l++m,b))
theorem wG (w:World) (B:Nat) (q:RC) (xb i:Nat) (cs:Array Value) (t:TypeId) (s0:Sl) (hq:RAt w B q) (hB:B<=w.heap.size) (hx:Blk w xb cs t) (hi:cs[i]? =some (.slice s0.a s0.n s0.c)) (hxB:B<=xb) (hxc:xb≠q.c):
  Calls prog 149 #[.pointer (some ⟨q.c,0,none⟩),.pointer (some ⟨xb,i,none⟩),.int .i64 16,.func (.func 150) #[.pointer (some ⟨q.c,0,none⟩)] #[]] w (Ka B w q (eS q.bs q.at_) (fun W=>aN W w.heap.size) (fun s=>cs.setIfInBounds i (.slice s.a s.n s.c)) xb t):=by
 have hxl:=hx.lt;have hcl:=hq.blk.lt;have hmx:=hq.max;obtain ⟨sa,sn,sc⟩:=s0;dsimp only at hi;go_enter func149,ntmps149;go_wp2_with fail;have r1:∀W,Old w.drew W->W.cell? ⟨q.c,1,none⟩=some (.int .i64 (q.at_:Int)):=fun W hW=>(by rw [hW.cell (p:=⟨q.c,1,none⟩) hcl];exact hq.blk.rule 1);have r2:∀W,Old w.drew W->W.cell? ⟨xb,i,none⟩=some (.slice sa sn sc):=fun W hW=>(by rw [hW.cell (p:=⟨xb,i,none⟩) hxl];exact (hx.rule i).trans hi);refine aj true Old Old.refl Old.trans (.step 0 (.step 1 (.step 2 (.step 3 (.step 4 (.step 5 (.step 6 (.step 7 (.step 8 (.step 9 (.step 10 .done))))))))))) krA krA cdA ?_
 repeat (first|refine tsA ?_|refine tqA ?_)
 refine an rfl rfl rfA (fun K hK=> ?_);go_wp2_with fail;refine hK _ _ ((AT _ _).alloc (Lt _) _) ?_;clear hK K r1 r2
 repeat (first|refine tsA ?_|refine tqA ?_)
 refine az rfl rfl rfA (fun K hK=> ?_);go_wp2_with fail;refine ap ?_;go_upto_region 1 with (fail);obtain ⟨Y,hY⟩:=Le w.heap.size;rw [<-hY];refine af (fun W=>(∃y:Int,Blk W Y #[.int .i64 y] 3)/\Below w.heap.size w W) ⟨⟨_,by rw [hY];exact (Blk.new w _ _).drew⟩,cL⟩ ?_;rintro W1 ⟨⟨y0,hn1⟩,hb1⟩;have hYB:B<=Y:=oA;have hYc:Y≠q.c:=oA;have hYx:xb≠Y:=oA;have hB1:=At hB hb1.size;have hq1:=hq.old hb1 hB;have cb:=BQ W1 B q Y 0 _ _ _ hq1 hB1 hn1 rfl hYB hYc;have hx1:=hx.old hb1;have HY:=Hd hY;clear hY;go_wp2_with fail;refine cb.mono ?_;clear cb;rintro e w2 ⟨h1,h2⟩;by_cases hmore:q.at_+8<=q.bs.length
 .obtain ⟨rfl,hg⟩:=h2 hmore;clear h1 h2;have e0:bB q.bs q.at_= .ok (gK q.bs q.at_,q.at_+8):=(by unfold bB;rw [if_neg oA];rfl);have cn:=hg.blk.rule;have wfn:=gH q.bs q.at_;obtain ⟨n,hn⟩:=Le (gK q.bs q.at_);have cn2:w2.cell? ⟨Y,0,none⟩=some (.int .i64 n):=(by rw [hn];exact cn 0);have hn2:Blk w2 Y #[.int .i64 n] 3:=(by rw [hn];exact hg.blk);rw [<-hn] at e0 wfn;have hbel2:gq w q w2 xb t:=lO.loc hb1 hg (VR HY.out.symm) rfl hxc hxl;have hq2:RAt w2 B (q.to (q.at_+8)):=hg.at';have hx2:Blk w2 xb cs t:=(hg.turn.block xb (VF hxl hb1.size) (by rintro (h|h);exact hxc h;exact hYx h)).trans hx1;have ht2:aJ (fun x=>x=q.c\/x=xb) w w2:=(aJ.of_below (F:=fun x=>x=q.c\/x=xb) hb1).trans hg.turn fun x hx=>by
   rcases hx with rfl|rfl
   .exact .inl (.inl rfl)
   .exact .inr (by have:=HY.out;omega)
  have cc:=hq2.blk.rule;unfold gR at cc;have hcc:(q.to (q.at_+8)).c=q.c:=rfl;have hca:(q.to (q.at_+8)).at_=q.at_+8:=rfl;have hcb:(q.to (q.at_+8)).bs=q.bs:=rfl;have hcx:(q.to (q.at_+8)).a=q.a:=rfl;have hcp:(q.to (q.at_+8)).cap=q.cap:=rfl;rw [hcc,hca,hcb,hcx,hcp] at cc;have hsub:IntKind.i64.wrap ((q.bs.length:Int)-((q.at_+8:Nat):Int))=(q.bs.length:Int)-((q.at_+8:Nat):Int):=(by rw [VZ];omega);clear cn hn hn1 hg;have HX2:=Hd hx2;have HT2:=Hd ht2;go_upto_region 3 with (fail);by_cases o1:n<0
  .have d1:decide (n<0)=true:=soA;have HR:=Hd (show eS q.bs q.at_= .error q.at_ by unfold eS ik;rw [e0];dsimp only;rw [if_pos (.inl o1)]);have HB2:=Hd hbel2;go_quiet (fail);go_wp2_with fail;refine ⟨rfl,?_⟩;rw [HR.out];exact ⟨rfl,HB2.out.drewN _⟩
  .have d1:decide (n<0)=false:=soA;have hdv:((q.bs.length:Int)-((q.at_+8:Nat):Int)).tdiv 16=((q.bs.length:Int)-((q.at_:Int)+8))/16:=by
    rw [WH oA];rfl
   by_cases o2:((q.bs.length:Int)-((q.at_:Int)+8))/16<n
   .have d2:decide (((q.bs.length:Int)-((q.at_:Int)+8))/16<n)=true:=(by simpa using o2);have HR:=Hd (show eS q.bs q.at_= .error q.at_ by unfold eS ik;rw [e0];dsimp only;rw [if_pos (.inr (by rw [show ((((16:Nat):Int)))=(16:Int) from rfl,hdv];exact o2))]);have HB2:=Hd hbel2;clear o2 hdv;go_quiet (fail);go_wp2_with fail;refine ⟨rfl,?_⟩;rw [HR.out];exact ⟨rfl,HB2.out.drewN _⟩
   .have d2:decide (((q.bs.length:Int)-((q.at_:Int)+8))/16<n)=false:=(by simpa using o2);obtain ⟨N,hN⟩:∃N:Nat,n=(N:Int):=⟨n.toNat,oA⟩;have hNl:N<=200000:=oA;have HR:=Hd (show eS q.bs q.at_=bC (fi q.bs) N (q.at_+8) by
     unfold eS ik;rw [e0];dsimp only;rw [if_neg (by rw [show ((((16:Nat):Int)))=(16:Int) from rfl,hdv];omega),hN];rfl)
    subst hN;clear o2 hdv e0;go_quiet (fail);go_upto_region 5 with (fail);refine af (fun W=>Blk W xb cs t/\RAt W B (q.to (q.at_+8))/\aJ (fun x=>x=q.c\/x=xb) w W/\Blk W Y #[.int .i64 (N:Int)] 3) ⟨HX2.out,hq2.keep rfl (bW (AT _ _) _),HT2.out.drewN _,hn2⟩ ?_;clear hx2 ht2 hq2 hn2 cn2 hbel2 cc HX2 HT2;rintro w3 ⟨hx3,hq3,ht3,hn3⟩;have cx3:=hx3.rule i;rw [hi] at cx3;have fx3:=hx3.free;have cn3:=hn3.rule;have hst:vr w B q xb i cs t N (bC (fi q.bs) N (q.at_+8)) N (.int .i64 0) (w3.setCell ⟨xb,i,none⟩ (.slice none 0 0)):=by
     refine ⟨0,⟨none,0,0⟩,[],q.at_+8,oA,rfl,Own.nil _ _ _ _,rfl,rfl,skA,hq3.keep (VU _ _ _ _ (Vf hxc)) ((AT _ _).setCell hxB _),hx3.set i _,ht3.setCell (.inl (.inr rfl)) _,?_⟩;rw [Nat.sub_zero];cases bC (fi q.bs) N (q.at_+8) with
     |error p=>rfl
     |ok v=>rfl
    go_wp2_with fail;go_loopg [50] N (vr w B q xb i cs t N (bC (fi q.bs) N (q.at_+8)))
    case atStart=>exact hst
    case round=>
     clear hst cx3 fx3 cn3 hx3 hq3 ht3 hn3;obtain ⟨k,s,l,a,hk,rfl,hown,hsn,hll,hwf,hqr,hxr,htr,hR⟩:=hrel;have HRR:=Hd hR;clear hR;by_cases hlt:k<N
     .have t0:decide ((k:Int)<(N:Int))=true:=soA;have cx:=hxr.rule i;rw [Vl,if_pos rfl,if_pos (by have:=VK.1 hi;exact this.1)] at cx;have fx:=hxr.free;have cc:=hqr.blk.rule;unfold gR at cc;have hcc:(q.to a).c=q.c:=rfl;rw [hcc] at cc;have hzr:=htr.size;go_upto_region 11 with (fail);obtain ⟨Z,hZ⟩:=Le wr.heap.size;rw [<-hZ];refine af (fun W=>Blk W Z (bK.cells ⟨0,0⟩).toArray 157/\Below wr.heap.size wr W) ⟨by rw [hZ];exact Blk.new wr _ _,cL⟩ ?_;rintro W0 ⟨hz0,hb0⟩;have hzl:=hz0.lt;have hZw:wr.heap.size<=Z:=oA;have hrb:∀x,(Value.slice s.a k s.c).ownBlock=some x->w.heap.size<=x/\x<wr.heap.size:=fun x hx=>by
       cases hsa:s.a with
       |none=>rw [hsa] at hx;cases hx
       |some ad=>
        rw [hsa] at hx;cases hx;exact ⟨(hown.block_lt hsa).1,(hown.block_lt hsa).2.1⟩
      have hxZ:xb<Z:=oA;have hx0:=hxr.old hb0;have hxl0:=hx0.lt;have hbw0:Below w.heap.size wr W0:=hb0.mono hzr;clear hZ cx fx cc;have cx:=hx0.rule i;rw [Vl,if_pos rfl,if_pos (by have:=VK.1 hi;exact this.1)] at cx;have r1:∀W,aq (fun x=>x=xb\/x=Z) W0.drew W->W.cell? ⟨xb,i,none⟩=some (.slice s.a k s.c):=fun W hW=>(VJ (a:=⟨xb,i,none⟩) (hW.2 _ (.inl rfl))).trans cx;have r2:∀W,aq (fun x=>x=xb\/x=Z) W0.drew W->∀j,W.cell? ⟨Z,j,none⟩=(bK.cells ⟨0,0⟩).toArray[j]? :=fun W hW j=>(show Blk W Z _ _ from (hW.2 _ (.inr rfl)).trans hz0).rule j;unfold bK.cells at r2;have hA:=((hown.old hb0).drew).alloc (.cells #[.int .i64 0,.int .i64 0] 157);have fx:∀j,W0.frozen? ⟨xb,j,none⟩=false:=hx0.free;refine aj true (aq (fun x=>x=xb\/x=Z)) (aq.refl _) (fun _ _ _ h1 h2=>aq.trans h1 h2) (.step 0 (.step 1 (.step 2 (.step 3 (.step 4 (.step 5 (.step 6 (.step 7 (.step 8 .done))))))))) krA krA cdA ?_
      repeat (first|refine tsA ?_|refine tqA ?_)
      refine an rfl rfl rfA (fun K hK=> ?_);go_wp2_with fail;refine hK _ _ (aq.below ((AT _ _).alloc (Lt _) _) (fun x hx=>by rcases hx with rfl|rfl;exact hxl0;exact hzl)) ?_;clear hK K;refine an rfl rfl rfA (fun K hK=> ?_);refine eh (.tmp 60) (.tmp 62) 36 rfl wl rfl hA rfl (aw.new' _ _ _ _ rfA) rfA (by intro u hu;simp at hu;rcases hu with rfl|rfl<;>rfl) mxA oA (by have:=hb0.size;simp;omega) ?_
      intro a2 c2 w4 hown4 hg4;have hb4:Below w.heap.size wr w4:=hA.grown ((hbw0.drew).alloc (show w.heap.size<=W0.heap.size from by have:=hb0.size;omega) _) (Lt _) hg4 soA;refine hK _ _ ⟨hg4.size,fun x hx=> ?_⟩ ?_
      .refine hg4.block x (by rcases hx with rfl|rfl<;>simp<;>omega) fun e=> ?_
       have:=hrb x e.symm;rcases hx with rfl|rfl<;>omega
      clear hK K r1 r2;have hx4:=(hb4.block xb hxl).trans hxr;replace hx4:Blk w4 xb _ t:=hx4;have cx4:=hx4.rule i;rw [Vl,if_pos rfl,if_pos (by have:=VK.1 hi;exact this.1)] at cx4;have fx4:=hx4.free
      repeat (first|refine tsA ?_|refine tqA ?_)
      refine az rfl rfl rfA (fun K hK=> ?_);go_wp2_with fail;refine ap ?_;have cc:=0;go_upto_region 12 with (fail);refine af (fun W=>Blk W xb (cs.setIfInBounds i (.slice a2 (k+1) c2)) t/\RAt W B (q.to a)/\Own W w.heap.size 157 2 a2 (k+1) c2 (l.flatMap bK.cells++bK.cells ⟨0,0⟩)/\aJ (fun x=>x=q.c\/x=xb) w W) ⟨?_,?_,?_,?_⟩ ?_
      .have:=hx4.set i (.slice a2 (k+1) c2);rw [Array.setIfInBounds_setIfInBounds] at this;exact this
      .exact hqr.keep ((VU _ _ _ _ (Vf hxc)).trans (hb4.block q.c hcl)) ((hb4.mono hB).trans ((AT _ _).setCell hxB _))
      .exact hown4.setCell_lt _ _ hxl
      .exact (htr.trans (aJ.of_ge hb4) fun x hx=> .inr hx).setCell (.inl (.inr rfl)) _
      clear cx fx cc cx4 fx4 hx4 hown4 hg4 hb4 hA hown hxr hqr htr;rintro w5 ⟨hx5,hq5,hown5,ht5⟩;have hz5:=ht5.size;have hB5:=At hB hz5;obtain ⟨g,hgd⟩:=hown5.head oA;subst hgd;obtain ⟨hgw,_,cur,hcur⟩:=hown5.block_lt rfl;replace hcur:Blk w5 g cur 157:=hcur;replace hgw:w.heap.size<=g:=hgw;have hvl:(l.flatMap bK.cells).length=k*2:=(by rw [mq,hll]);have hrow:yO cur (k*2) (bK.cells ⟨0,0⟩):=fun j hj=>by
       obtain ⟨b',o',e1,e2⟩:=hown5.row (k*2+j) (by rw [laA,hvl];omega);cases e1;rw [VS] at e2;have e3:=hcur.rule (k*2+j);rw [e2,List.getElem_append_right oA] at e3;rw [<-e3];simp [hvl]
      have cx5:=hx5.rule i;rw [Vl,if_pos rfl,if_pos (by have:=VK.1 hi;exact this.1)] at cx5;have hgc:g≠q.c:=oA;have hgx:xb≠g:=oA;have cb:=KP w5 B (q.to a) g (k*2) cur 157 ⟨0,0⟩ hq5 hB5 hcur hrow (by show B<=g;omega) hgc;have hcc:(q.to a).c=q.c:=rfl;rw [hcc] at cb;skip;go_wp2_with fail;refine cb.mono ?_;clear cb;rintro e w6 hres;obtain ⟨m,hm⟩:∃m,N-k=m+1:=⟨N-k-1,oA⟩;have hR2:=HRR.out;rw [hm] at hR2;cases hone:fi q.bs a with
      |error p=>
       obtain ⟨rfl,hbE⟩:=hres.err hone;have HR3:=Hd (show bC (fi q.bs) N (q.at_+8)= .error p by
        rw [hR2];simp only [bC,hone])
       have hx6:Blk w6 xb _ t:=(hbE.turn.block xb oA (by rintro (h|h);exact hxc h;exact hgx h)).trans hx5;have hbB:gq w q w6 xb t:=gq.of hx (ht5.trans hbE.turn fun x hx=>by
        rcases hx with rfl|rfl
        .exact .inl (.inl rfl)
        .exact .inr hgw) hx6 skA
       clear hres hR2 hone hx6;go_wp2_with fail;refine ⟨rfl,?_⟩;rw [HR.out,HR3.out];exact ⟨rfl,hbB⟩
      |ok va=>
       obtain ⟨v,a'⟩:=va;obtain ⟨rfl,hg6⟩:=hres.ok hone;have hvw:v.wf:=BC hone;have hown6:=hown5.last (ys:=v.cells) hcur (by rw [hvl];first|exact hg6.blk|(rw [Vk];exact hg6.blk)) rfl;have hx6:Blk w6 xb _ t:=(hg6.turn.block xb oA (by rintro (h|h);exact hxc h;exact hgx h)).trans hx5;have ht6:aJ (fun x=>x=q.c\/x=xb) w w6:=ht5.trans hg6.turn fun x hx=>by
        rcases hx with rfl|rfl
        .exact .inl (.inl rfl)
        .exact .inr hgw
       have hq6:RAt w6 B (q.to a'):=hg6.at';have HR3:=Hd (show bC (fi q.bs) N (q.at_+8)=(match bC (fi q.bs) (N-(k+1)) a' with
        | .error p=> .error p
        | .ok (m,b)=> .ok ((l++ [v])++m,b)) by
        rw [hR2,show N-(k+1)=m by omega];simp only [bC,hone];cases bC (fi q.bs) m a' with
        |error p=>rfl
        |ok y=>simp)
       clear hres hR2 hone hg6 hrow hcur cx5;go_wp2_with fail;go_roundg (gk-1)
       case measure=>omega
       case rel=>
        refine ⟨k+1,⟨some ⟨g,0,none⟩,k+1,c2⟩,l++ [v],a',oA,gnA,by simpa [bi] using hown6,rfl,by simp [hll],?_,hq6,hx6,ht6,HR3.out⟩;intro x hx;rcases VQ.1 hx with hx|hx
        .exact hwf x hx
        .rw [VH.1 hx];exact hvw
     .have hkN:k=N:=oA;have HR2:=Hd (show bC (fi q.bs) N (q.at_+8)= .ok (l,a) by
       rw [HRR.out,hkN,Nat.sub_self];simp [bC])
      have t0:decide ((k:Int)<(N:Int))=false:=soA;go_wp2_with fail;refine WF (v:= .tuple #[]) (Wx rfl _ _ _) rfl ?_;rw [HR.out,HR2.out];refine ⟨rfl,s,⟨by rw [hsn];exact hown,hown.row,by rw [hsn];exact hll,by rw [hsn];exact hown.le,hown.cap_le,by rw [hsn];omega,hwf⟩,hqr,htr,by show Blk wr xb (cs.setIfInBounds i (.slice s.a s.n s.c)) t;rw [hsn];exact hxr⟩
 .obtain ⟨rfl,hb2⟩:=h1 oA;have hbel2:gq w q w2 xb t:=gq.loc hb1 hb2 (VR HY.out.symm) rfl hxc hxl;have HR:=Hd (show eS q.bs q.at_= .error q.bs.length by unfold eS ik bB;rw [if_pos oA]);clear h1 h2;go_wp2_with fail;refine ⟨rfl,?_⟩;rw [HR.out];exact ⟨rfl,hbel2⟩
theorem AX {α β:Type} (v:α) (a:Nat) (f:α->Nat->Rd β):thn (.ok (v,a)) f=f v a:=rfl
theorem Bm {cs:Array Value} {i j:Nat} {v:Value} (h:i≠j):(cs.setIfInBounds i v)[j]? =cs[j]? :=by
 rw [Vl,if_neg h]
def Mq {α H:Type} (B:Nat) (w:World) (q:RC) (r:Rd α) (Ow:World->α->H->Prop) (f:α->H->Array Value) (xb:Nat) (t:TypeId) (e:Ending) (w':World):Prop:=match r with
 | .error p=>e= .panicked (lU p)/\gq w q w' xb t
 | .ok (l,a)=>e= .returned (.tuple #[])/\∃s,Ow w' l s/\lO B w q w' (q.to a) xb (f l s) t
section
variable {α H:Type} {B:Nat} {w w':World} {q:RC} {r:Rd α} {Ow:World->α->H->Prop} {f:α->H->Array Value} {xb:Nat} {t:TypeId} {e:Ending}
theorem Mq.err (h:Mq B w q r Ow f xb t e w') {p:Nat} (hr:r= .error p):e= .panicked (lU p)/\gq w q w' xb t:=by subst hr;exact h
theorem Mq.ok (h:Mq B w q r Ow f xb t e w') {v:α} {a:Nat} (hr:r= .ok (v,a)):e= .returned (.tuple #[])/\∃s,Ow w' v s/\lO B w q w' (q.to a) xb (f v s) t:=by subst hr;exact h
end
section
variable {w w':World} {B:Nat} {s:Sl} {F:Nat->Prop}
theorem Own.turn {e:TypeId} {size:Nat} {a:Option Addr} {n c:Nat} {vs:List Value} (h:Own w B e size a n c vs) (ht:aJ F w w') (hF:∀x,F x->x<B):Own w' B e size a n c vs:=
 h.keepAt fun x hx=>by
  obtain ⟨h1,h2,_⟩:=h.block_lt hx;exact ht.block _ h2 fun hf=>by have:=hF _ hf;omega
theorem av.turn {l:List Int} (h:av w B s l) (ht:aJ F w w') (hF:∀x,F x->x<B):av w' B s l:=⟨h.1.turn ht hF,(h.1.turn ht hF).row,h.2.2⟩
theorem aN.turn {l:List bK} (h:aN w B s l) (ht:aJ F w w') (hF:∀x,F x->x<B):aN w' B s l:=⟨h.1.turn ht hF,(h.1.turn ht hF).row,h.2.2⟩
end
theorem KX (bs:List UInt8) (a:Nat):sP bs a 3=[.int .i64 (gK bs a),.int .i64 (gK bs (a+8)),.int .i64 (gK bs (a+16))]:=rfl
theorem vz {bs:List UInt8} {a:Nat} {n:Int} {b:Nat} (h:dQ bs a= .ok (n,b)):wf8 n:=by
 unfold dQ at h;cases hn:bB bs a with
 |error p=>rw [hn] at h;cases h
 |ok v=>
  rw [hn] at h;dsimp only at h;split at h
  .cases h
  .rename_i ho;cases h;simp only [wf8,Lit.wf,IntKind.min,IntKind.max,IntKind.signed,IntKind.bits];simp;omega
theorem FG (w:World) (B:Nat) (q:RC) (xb:Nat) (cs:Array Value) (t:TypeId) (p0:bq) (h0:dt) (hq:RAt w B q) (hB:B<=w.heap.size) (hx:Blk w xb cs t) (hcs:cs=(ay p0 h0).toArray) (hxB:B<=xb) (hxc:xb≠q.c):
  Calls prog 121 #[.pointer (some ⟨q.c,0,none⟩),.pointer (some ⟨xb,0,none⟩)] w (Mq B w q (eI q.bs q.at_) (fun W=>bh W w.heap.size) (fun p h=>(ay p h).toArray) xb t):=by
 have hmf:∀(fn:Fn) (first cap:Array Value) (w:World),(Instr.makeFunc fn first cap).run prog w= .ok (.func fn first cap) w:=fun _ _ _ _=>rfl;have hi3:∀j,j<3->∃v,cs[1+j]? =some (.int .i64 v):=fun j hj=>by
  rw [hcs];rcases (show j=0\/j=1\/j=2 by omega) with rfl|rfl|rfl
  .exact ⟨p0.side,rfl⟩
  .exact ⟨p0.place,rfl⟩
  .exact ⟨p0.target,rfl⟩
 have i0:cs[0]? =some (.int .i8 p0.op):=(by rw [hcs];rfl);have i4:cs[4]? =some (.slice h0.ids.a h0.ids.n h0.ids.c):=(by rw [hcs];rfl);have i5:cs[5]? =some (.slice h0.pairs.a h0.pairs.n h0.pairs.c):=(by rw [hcs];rfl);have hsz:cs.size=6:=(by rw [hcs];rfl);have hxcl:=hq.blk.lt;have hxl:=hx.lt;have hF:∀x,(x=q.c\/x=xb)->x<w.heap.size:=fun x hx=>(by rcases hx with rfl|rfl<;>assumption);clear hcs
 go_enter func121,ntmps121;have HW:=Hd (show eI q.bs q.at_=thn (dQ q.bs q.at_) fun op a=>thn (bB q.bs a) fun side a=>thn (bB q.bs a) fun place a=>thn (bB q.bs a) fun target a=>thn (gA q.bs a) fun ids a=>thn (eS q.bs a) fun pairs a=> .ok ((⟨op,side,place,target,ids,pairs⟩:bq),a) from rfl);have hg0:lO B w q w (q.to q.at_) xb cs t:=⟨hq,aJ.refl _ _,hx⟩;have cb:=Hq w B (q.to q.at_) xb 0 cs t p0.op hg0.at' (At hB hg0.turn.size) hg0.blk i0 hxB hxc;have hcc:(q.to q.at_).c=q.c:=rfl;rw [hcc] at cb;go_wp2_with fail;refine cb.mono ?_;clear cb;rintro e w1 hres;rcases hE1:dQ q.bs q.at_ with p|⟨v1,a1⟩
 .obtain ⟨rfl,hbE⟩:=hres.err hE1;have HR:=Hd (show eI q.bs q.at_= .error p by
   rw [HW.out,hE1];rfl)
  have hbB:gq w q w1 xb t:=gq.after hg0 hx rfl hbE rfl;clear hres;go_wp2_with fail;refine ⟨rfl,?_⟩;rw [HR.out];exact ⟨rfl,hbB⟩
 obtain ⟨rfl,hr⟩:=hres.ok hE1;rw [hE1,AX] at HW;replace hr:=hg0.chain (q'':=q.to a1) hr rfl;obtain ⟨C1,hC1⟩:∃C:Array Value,C=cs.setIfInBounds 0 (.int .i8 v1):=⟨_,rfl⟩;have hg1:lO B w q w1 (q.to a1) xb C1 t:=(by rw [hC1];exact hr);have hk1:∀j,0+1<=j->C1[j]? =cs[j]? :=fun j hj=>by
  rw [hC1];exact Bm oA
 have hs1:C1.size=cs.size:=(by rw [hC1];simp only [Array.size_setIfInBounds,eT]<;>exact rfl);have wf1:=vz hE1
 clear hr hres hE1;go_upto_region 1 with (fail);have hi31:∀j,j<3->∃v,C1[1+j]? =some (.int .i64 v):=fun j hj=>by
  obtain ⟨v,hv⟩:=hi3 j hj;exact ⟨v,(hk1 _ oA).trans hv⟩
 have hB1:=At hB hg1.turn.size;have hq1:=hg1.at';have hx1:=hg1.blk;refine aj false (aq (fun _=>False)) (aq.refl _) (fun _ _ _ h1 h2=>aq.trans h1 h2) (.step 0 (.step 1 (.step 2 (.step 3 (.step 4 (.step 5 (.step 6 (.step 7 (.step 8 (.step 9 (.step 10 (.step 11 .done)))))))))))) krA krA cdA ?_
 repeat (first|refine tsA ?_|refine tqA ?_)
 refine an rfl rfl rfA (fun K hK=> ?_);go_wp2_with fail;refine hK _ _ ⟨skA,fun _ h=>h.elim⟩ ?_;clear hK K
 repeat (first|refine tsA ?_|refine tqA ?_)
 refine an rfl rfl rfA (fun K hK=> ?_);go_wp2_with fail;have hb1:Below w1.heap.size w1 (w1.alloc (.cells #[.pointer (some ⟨xb,1,none⟩),.pointer (some ⟨xb,2,none⟩),.pointer (some ⟨xb,3,none⟩)] 209)).drew:=cL;have cb:=Gg _ B (q.to a1) w1.heap.size 3 xb 1 C1 _ (hq1.old hb1 hB1) (At hB1 hb1.size) (Blk.new w1 #[.pointer (some ⟨xb,1,none⟩),.pointer (some ⟨xb,2,none⟩),.pointer (some ⟨xb,3,none⟩)] 209).drew (Nat.ne_of_gt hq1.blk.lt) (Nat.ne_of_gt hx1.lt) (hx1.old hb1) hi31 hxB hxc oA;have hcc:(q.to a1).c=q.c:=rfl;rw [hcc] at cb;refine cb.mono ?_;clear cb;rintro e w2 ⟨h1,h2⟩;rcases Nat.lt_or_ge q.bs.length (a1+8*3) with hless|hmore
 .obtain ⟨rfl,hb2⟩:=h1 hless;have HR:=Hd (show eI q.bs q.at_= .error q.bs.length by rw [HW.out];exact Hz q.bs a1 _ oA);have hb3:gq w q w2 xb t:=gq.after hg1 hx hs1 (gq.pre hb1 hb2) rfl;clear h1 h2 hK;go_wp2_with fail;refine ⟨rfl,?_⟩;rw [HR.out];exact ⟨rfl,hb3⟩
 obtain ⟨rfl,hr⟩:=h2 hmore;have hz2:=hr.turn.size;replace hr:=hg1.chain (q'':=q.to (a1+8*3)) (hr.pre hb1) rfl;have HW2:=Hd (show eI q.bs q.at_=thn (gA q.bs (a1+8*3)) fun ids a=>thn (eS q.bs a) fun pairs a=> .ok ((⟨v1,gK q.bs a1,gK q.bs (a1+8),gK q.bs (a1+16),ids,pairs⟩:bq),a) by
  rw [HW.out];exact KG q.bs a1 (fun side place target a=>thn (gA q.bs a) fun ids a=>thn (eS q.bs a) fun pairs a=> .ok ((⟨v1,side,place,target,ids,pairs⟩:bq),a)) hmore)
 clear h1 h2 HW;have HW:=HW2;clear HW2;go_wp2_with fail;refine hK _ _ ⟨by simpa using hz2,fun _ h=>h.elim⟩ ?_;clear hK K;refine ap ?_;obtain ⟨C2,hC2⟩:=Le (dX C1 1 (sP q.bs a1 3));obtain ⟨a2,ha2⟩:=Le (a1+8*3);have hg2:lO B w q w2 (q.to a2) xb C2 t:=(by rw [hC2,ha2];exact hr);have hs2:C2.size=cs.size:=(by rw [hC2,eT];exact hs1);have hk2:∀j,4<=j->C2[j]? =cs[j]? :=fun j hj=>by
  rw [hC2,gS _ _ _ _ (.inr soA)];exact hk1 j oA
 rw [<-ha2] at HW;clear hr;have cb:=zO w2 B (q.to a2) xb 4 C2 t h0.ids hg2.at' (At hB hg2.turn.size) hg2.blk ((hk2 _ oA).trans i4) hxB hxc;have hcc:(q.to a2).c=q.c:=rfl;rw [hcc] at cb;go_wp2_with fail;refine cb.mono ?_;clear cb;rintro e w3 hres;rcases hE3:gA q.bs a2 with p|⟨v3,a3⟩
 .obtain ⟨rfl,hbE⟩:=hres.err hE3;have HR:=Hd (show eI q.bs q.at_= .error p by
   rw [HW.out,hE3];rfl)
  have hbB:gq w q w3 xb t:=gq.after hg2 hx hs2 hbE rfl;clear hres;go_wp2_with fail;refine ⟨rfl,?_⟩;rw [HR.out];exact ⟨rfl,hbB⟩
 obtain ⟨rfl,s3,ho3,hr⟩:=hres.ok hE3;rw [hE3,AX] at HW;have hp3:av w3 w.heap.size s3 v3:=ho3.lower hg2.turn.size;clear ho3;replace hr:=hg2.chain (q'':=q.to a3) hr rfl;obtain ⟨C3,hC3⟩:∃C:Array Value,C=C2.setIfInBounds 4 (.slice s3.a s3.n s3.c):=⟨_,rfl⟩;have hg3:lO B w q w3 (q.to a3) xb C3 t:=(by rw [hC3];exact hr);have hk3:∀j,4+1<=j->C3[j]? =cs[j]? :=fun j hj=>by
  rw [hC3];exact (Bm oA).trans (hk2 j oA)
 have hs3:C3.size=cs.size:=(by rw [hC3];simp only [Array.size_setIfInBounds,eT]<;>exact hs2);clear hr hres hE3
 have cb:=wG w3 B (q.to a3) xb 5 C3 t h0.pairs hg3.at' (At hB hg3.turn.size) hg3.blk ((hk3 _ oA).trans i5) hxB hxc;have hcc:(q.to a3).c=q.c:=rfl;rw [hcc] at cb;go_wp2_with fail;refine cb.mono ?_;clear cb;rintro e w4 hres;rcases hE4:eS q.bs a3 with p|⟨v4,a4⟩
 .obtain ⟨rfl,hbE⟩:=hres.err hE4;have HR:=Hd (show eI q.bs q.at_= .error p by
   rw [HW.out,hE4];rfl)
  have hbB:gq w q w4 xb t:=gq.after hg3 hx hs3 hbE rfl;clear hres;go_wp2_with fail;refine ⟨rfl,?_⟩;rw [HR.out];exact ⟨rfl,hbB⟩
 obtain ⟨rfl,s4,ho4,hr⟩:=hres.ok hE4;rw [hE4,AX] at HW;have hp4:aN w4 w.heap.size s4 v4:=ho4.lower hg3.turn.size;clear ho4;replace hp3:=hp3.turn hr.turn hF;replace hr:=hg3.chain (q'':=q.to a4) hr rfl;obtain ⟨C4,hC4⟩:∃C:Array Value,C=C3.setIfInBounds 5 (.slice s4.a s4.n s4.c):=⟨_,rfl⟩;have hg4:lO B w q w4 (q.to a4) xb C4 t:=(by rw [hC4];exact hr);have hk4:∀j,5+1<=j->C4[j]? =cs[j]? :=fun j hj=>by
  rw [hC4];exact (Bm oA).trans (hk3 j oA)
 have hs4:C4.size=cs.size:=(by rw [hC4];simp only [Array.size_setIfInBounds,eT]<;>exact hs3);clear hr hres hE4
 go_wp2_with fail;refine WF (v:= .tuple #[]) (Wx rfl _ _ _) rfl ?_;rw [HW.out];refine ⟨rfl,⟨s3,s4⟩,⟨wf1,gH _ _,gH _ _,gH _ _,hp3,hp4⟩,?_⟩;have e1:(ay ⟨v1,gK q.bs a1,gK q.bs (a1+8),gK q.bs (a1+16),v3,v4⟩ ⟨s3,s4⟩).toArray=C4:=by
  rw [<-zB (cs:=cs) (by rw [hsz];rfl),hC4,hC3,hC2,hC1,KX];simp only [ay,dX,VS,Nat.reduceAdd]
 dsimp only;rw [e1];exact hg4
end
end Go.Proofs.YtioigihakjlopaaGreat
