import Derived.Test.YtioigihakjlopaaGreatVF26
namespace Go.Proofs.YtioigihakjlopaaGreat
open Go.Proofs.Tryz
set_option linter.unusedVariables false
set_option linter.unusedSimpArgs false
set_option maxHeartbeats 16000000
set_option maxRecDepth 100000
section
open Go.RowKit
def Mo (w:World) (b:List UInt8) (f:Nat) (loads at_:Value) (w':World):Prop:=
 ∃(a1:Option Addr) (n1 c1 k:Nat) (vs:List Value) (done:List (List UInt8)),loads= .slice a1 n1 c1/\aO w' w.heap.size 22 5 a1 n1 c1 vs done/\at_= .int .i64 (k:Int)/\k<=b.length/\
  n1+f=iU/\scan iU b=(done++(scan f (b.drop k)).1,(scan f (b.drop k)).2)/\Below w.heap.size w w'
def JN (w:World) (H r:List UInt8) (f:Nat) (same i:Value) (w':World):Prop:=
 ∃(k:Nat),k+f=8/\i= .int .i64 (k:Int)/\same= .bool (r.take k==H.take k)/\Below w.heap.size w w'
theorem AY (r H:List UInt8) (j:Nat) (h1:j<r.length) (h2:j<H.length):(r.take (j+1)==H.take (j+1))=((r.take j==H.take j)&&(r[j]==H[j])):=by
 rw [VW h1,VW h2];have hl:(r.take j).length=(H.take j).length:=(by rw [ltA,ltA];omega);rw [Wj];simp only [Xj,VN];constructor
 .intro h;have:=List.append_inj h hl;simpa using this
 .rintro ⟨h,h'⟩;rw [h,h']
theorem uo (a:Option Addr) (len cap:Nat) (b:List UInt8) (w:World) (hl:ah w a b) (hlen:b.length=len) (hm:len<=140737488351232) (hcap:len<=cap):
  Calls prog 116 #[.slice a len cap] w fun e w'=>∃a' n' c' vs,e= .returned (.tuple #[.slice a' n' c',.int .i64 ((scan iU b).2.length:Int)])/\aO w' w.heap.size 22 5 a' n' c' vs (scan iU b).1/\Below w.heap.size w w':=by
 have HL:=Hd hlen;clear hlen;go_enter func116,ntmps116;go_wp2_with fail;go_loopg [2,4] iU (Mo w b)
 case atStart=>exact ⟨none,0,0,0,[],[],rfl,aO.nil _ _ _ _,rfl,Vo _,VS _,skA,AT _ _⟩
 case round=>
  obtain ⟨a1,n1,c1,k,vs,done,rfl,hown,rfl,hk,hf,hs,hb⟩:=hrel;rw [HL.out] at hk;have HS:=Hd hs;have hrl:(b.drop k).length=len-k:=(by rw [ldA,HL.out]);have HN:=Hd hrl;clear hs hrl;rw [je] at hf;cases gk with
  |zero=>
   have t1:decide ((n1:Int)<4096)=false:=soA;clear hf;go_wp2_with fail;go_ret2;have e:=gP HS.out (.inl rfl);refine ⟨a1,n1,c1,vs,?_,by rw [e];exact hown,hb⟩;rw [e,HN.out];simp;omega
  |succ f=>
   have t1:decide ((n1:Int)<4096)=true:=soA;have HF:=Hd hf;clear hf;by_cases h8:len-k<=8
   .have t2:decide ((9:Int)<=(len:Int)-(k:Int))=false:=soA;go_wp2_with fail;go_ret2;have e:=gP HS.out (.inr (iy (by rw [HN.out];exact h8)));refine ⟨a1,n1,c1,vs,?_,by rw [e];exact hown,hb⟩;rw [e,HN.out];simp;omega
   .have t2:decide ((9:Int)<=(len:Int)-(k:Int))=true:=soA;obtain ⟨c0,x1,x2,x3,d0,d1,d2,d3,m,hr8,hm0⟩:=Ly (r:=b.drop k) (by rw [HN.out];omega);obtain ⟨g,o,rfl,hc⟩:=ah.at hl (by rw [HL.out];omega);have hx0:ah w (some ⟨g,o+k,none⟩) (b.drop k):=(by unfold ah;rw [List.map_drop];exact aw.drop k hl);rw [hr8] at HS HN hx0;have HR:=Hd hr8;clear hr8 hc;have hx:=hx0.below hb;have hc:∀i (hi:i<(c0::x1::x2::x3::d0::d1::d2::d3::m).length),wr.cell? ⟨g,o+k+i,none⟩=some (.int .u8 (U8 (c0::x1::x2::x3::d0::d1::d2::d3::m)[i])):=by
     obtain ⟨_,_,e,hc⟩:=ah.at hx skA;cases e;exact hc
    have g0:wr.cell? ⟨g,o+k,none⟩=some (.int .u8 (U8 c0)):=hc 0 skA;have g1:wr.cell? ⟨g,o+(k+1),none⟩=some (.int .u8 (U8 x1)):=hc 1 skA;have g2:wr.cell? ⟨g,o+(k+2),none⟩=some (.int .u8 (U8 x2)):=hc 2 skA;have g3:wr.cell? ⟨g,o+(k+3),none⟩=some (.int .u8 (U8 x3)):=hc 3 skA;have hgw:g<wr.heap.size:=aw.lt hx skA;have k0:k<len:=oA;have k1:k+1<len:=oA;have k2:k+2<len:=oA;have k3:k+3<len:=oA;have hml:m.length+8=len-k:=(by have:=HN.out;simp only [VT] at this;omega);obtain ⟨N,hNN⟩:∃N,sF c0 x1 x2 x3=N:=⟨_,rfl⟩;have HO:=orBE c0 x1 x2 x3;rw [hNN] at HO;have hsN:eZ (c0::x1::x2::x3::d0::d1::d2::d3::m)=N:=hNN;by_cases hbad:1<=N/\N<=65536/\N<=len-k-8
    .obtain ⟨b1,b2,b3⟩:=hbad;have t3:decide ((N:Int)<1)=false:=soA;have t4:decide ((65536:Int)<(N:Int))=false:=soA;have t5:decide ((len:Int)-(k:Int)-8<(N:Int))=false:=soA;have hlN:(m.take N).length=N:=(by rw [ltA];omega);have hld:ah wr (some ⟨g,o+(k+8),none⟩) (m.take N):=by
      have:=aw.take N (aw.drop (b:=g) (o:=o+k) 8 hx);rw [WP] at this;unfold ah;rw [WE];exact this
     have hsub:k+8+N-(k+8)=N:=oA;have hlo:fS (c0::x1::x2::x3::d0::d1::d2::d3::m)=m.take N:=(by unfold fS;rw [hsN];rfl);have hsc:=sv (b:=c0::x1::x2::x3::d0::d1::d2::d3::m) (by rw [HN.out];omega) (by rw [hsN];exact b1) (by rw [hsN];exact b2) (by rw [hsN,HN.out];exact b3);rw [hlo] at hsc;have hmore:=fun h=>uc HS.out h;rw [hlo,hsN] at hmore;obtain ⟨r,hr⟩:∃r,c0::x1::x2::x3::d0::d1::d2::d3::m=r:=⟨_,rfl⟩;obtain ⟨l,hll⟩:∃l,m.take N=l:=⟨_,rfl⟩;have hdr:(c0::x1::x2::x3::d0::d1::d2::d3::m).drop (8+N)=b.drop (k+(8+N)):=(by rw [<-HR.out,Wu]);go_wp2_with fail;go_quiet (fail);go_wp2_with (at_builtin;refine al rfl _ _ 22 rfl nP rfl (Own.nil _ w.heap.size _ _) rfl (hld.drewN nq) (by rw [lmA,hlN];omega) (cO _) mxA oA hb.size ?_);intro a2 c2 w2 hown2 hg2;have hb2:Below wr.heap.size wr w2:=(bW (AT _ wr) nq).grown hg2 (Lt _) (fun k hk=>by cases hk);have hbt2:=ae hb hb2;have hld2:ah w2 a2 (m.take N):=(by have:=hown2.row;rw [hll];simpa [ah,hll] using this);go_wp2_with fail;refine (qL _ _ _ (m.take N) _ hld2 hlN b1 b2).mono ?_;rintro e w3 ⟨a3,c3,rfl,hrec,hb3⟩;obtain ⟨g3,cur3,rfl,hg3⟩:=hrec.blk oA;have hg3:=And.intro hg3.1 hg3.2.1;have hb3':Below w2.heap.size w2 w3:=hb3;have hbt3:=ae hbt2 hb3;have hrl:(bj l).length=8+N:=(by rw [bM,<-hll,hlN]);have eR:∀j (h:j<(bj l).length),∀W,Below w3.heap.size w3 W->W.cell? ⟨g3,j,none⟩=some (.int .u8 (U8 (bj l)[j])):=fun j h W hW=>by
      rw [hW.cell hg3.2.lt];have:=hrec.cell j (by rw [lmA];rw [hll];exact h);rw [this];simp [bv,hll]
     have eB:∀j (h:j<r.length),∀W,Below w3.heap.size w3 W->W.cell? ⟨g,o+(k+j),none⟩=some (.int .u8 (U8 r[j])):=fun j h W hW=>by
      subst hr;rw [(ae (ae hb2 hb3) hW).cell hgw,<-WP];exact hc j h
     go_wp2_with fail;go_loopg [9,10] 8 (JN w3 (bj l) r)
     case atStart=>exact ⟨0,rfl,rfl,rfl,AT _ _⟩
     case round=>
      obtain ⟨j,hj,rfl,rfl,hbj⟩:=hrel;by_cases hj8:j<8
      .have u1:decide ((j:Int)<8)=true:=soA;have hjr:j<r.length:=(by rw [<-hr,HN.out];omega);have hjH:j<(bj l).length:=(by rw [hrl];omega);have eR':∀W,Old wr.drew W->W.cell? ⟨g3,j,none⟩=some (.int .u8 (U8 (bj l)[j])):=fun W hW=>eR j hjH W (ae hbj (ae (AT _ _).drew hW));have eB':∀W,Old wr.drew W->W.cell? ⟨g,o+(k+j),none⟩=some (.int .u8 (U8 r[j])):=fun W hW=>eB j hjr W (ae hbj (ae (AT _ _).drew hW));have v1:(j:Int)<8+(N:Int):=oA;have v2:(k:Int)+(j:Int)<(len:Int):=oA;have v3:IntKind.i64.wrap ((k:Int)+(j:Int))=(k:Int)+(j:Int):=VD _ oA;have v4:(0:Int)<=(k:Int)+(j:Int):=oA;have v5:((k:Int)+(j:Int)).toNat=k+j:=oA;have hstep:=AY r (bj l) j hjr hjH;cases hs:(r.take j==(bj l).take j) with
       |true=>
        rw [hs] at hstep;by_cases hx:r[j]=(bj l)[j]
        .have u2:(U8 (bj l)[j]==U8 r[j])=true:=(by rw [hx];exact BEq.rfl);go_wp2_with fail;refine aA (0::1::2::3::4::5::6::7::8::9::10::11::12::13::14::[]) krA krA cdA ?_
         repeat (first|refine lsA ?_|refine lqA ?_)
         refine bO ?_;go_wp2_with fail;go_roundg (gk-1)
         case measure=>omega
         case rel=>exact ⟨j+1,oA,gnA,by rw [hstep,hx];simp,ae hbj (AT _ _).drew⟩
        .have u2:(U8 (bj l)[j]==U8 r[j])=false:=by
          have:=AP (fun e=>hx e.symm);simpa [bne] using this
         go_wp2_with fail;refine aA (0::1::2::3::4::5::6::7::8::9::10::11::12::13::14::[]) krA krA cdA ?_
         repeat (first|refine lsA ?_|refine lqA ?_)
         refine bO ?_;go_wp2_with fail;go_roundg (gk-1)
         case measure=>omega
         case rel=>exact ⟨j+1,oA,gnA,by rw [hstep];simpa using hx,ae hbj (AT _ _).drew⟩
       |false=>
        rw [hs] at hstep;go_wp2_with fail;go_quiet (fail);go_wp2_with fail;go_roundg (gk-1)
        case measure=>omega
        case rel=>exact ⟨j+1,oA,gnA,by rw [hstep];rfl,ae hbj (bW (AT _ _) _)⟩
      .have hje:j=8:=oA;have u1:decide ((j:Int)<8)=false:=soA;have hfin:(r.take j==(bj l).take j)=iz r:=(by rw [hje,<-hr,hsc,hll];rfl);rw [hfin];cases hsv:iz r with
       |true=>
        have hcnt:=HF.out;have hwj:Below w.heap.size w wr:=ae hbt3 hbj;have hld3:=((hown2.old hb3).old hbj);have hownj:=(hown.old (ae hb2 hb3)).old hbj;have hown4:=hownj.old ((AT _ wr).alloc (Lt _) (.cells #[.slice a2 N c2] 22));have hlit:=Own.lit (w:=wr) (B:=0) (e:=22) #[.slice a2 N c2] [.slice a2 N c2] 1 rfl rfl (Vo _) mxA;have hbt4:=ae hwj ((AT _ wr).alloc (Lt _) (.cells #[.slice a2 N c2] 22));go_wp2_with (at_builtin;refine al rfl _ _ 124 rfl wk rfl hown4.1 rfl hlit.row rfl (by intro u hu;rw [VH.1 hu];rfl) mxA oA hbt4.size ?_);intro a4 c4 w4 hown5 hg4;have hlN':l.length=N:=(by rw [<-hll,hlN]);have hnew:=hown4.snoc dcA hg4 hlN' ((by simpa [hll] using hld3:Own wr w.heap.size 5 1 a2 N c2 (l.map bv)).alloc _) (Lt _) hown5;have hb4:=hown4.1.grown hbt4 (Lt _) hg4 hbt4.size;have hnx:=hmore (by rw [hr];exact hsv);rw [hdr,hll] at hnx;go_wp2_with fail;go_roundg f
        case measure=>omega
        case rel=>exact ⟨a4,n1+1,c4,k+(8+N),_,_,rfl,hnew,gnA,by rw [HL.out];omega,by rw [je];omega,hnx,hb4⟩
       |false=>
        go_wp2_with fail;go_ret2;have e:=gP HS.out (.inr (by rw [hr];exact hsv));refine ⟨a1,n1,c1,vs,?_,by rw [e];exact ((hown.old (ae hb2 hb3)).old hbj),ae hbt3 hbj⟩;rw [e,HN.out];simp;omega
    .have hno:=xJ (b:=c0::x1::x2::x3::d0::d1::d2::d3::m) (by rw [hsN,HN.out];exact hbad);have e:=gP HS.out (.inr hno);have HE:=Hd e;have HA:=Hd hbad;clear hbad hno e;by_cases b1:1<=N
     .have t3:decide ((N:Int)<1)=false:=soA;by_cases b2:N<=65536
      .have t4:decide ((65536:Int)<(N:Int))=false:=soA;have t5:decide ((len:Int)-(k:Int)-8<(N:Int))=true:=(by have:=HA.out;simp;omega);go_wp2_with fail;go_quiet (fail);go_wp2_with fail;go_ret2;refine ⟨a1,n1,c1,vs,?_,by rw [HE.out];exact hown.drew _,bW hb _⟩;rw [HE.out,HN.out];simp;omega
      .have t4:decide ((65536:Int)<(N:Int))=true:=soA;go_wp2_with fail;go_quiet (fail);go_wp2_with fail;go_ret2;refine ⟨a1,n1,c1,vs,?_,by rw [HE.out];exact hown.drew _,bW hb _⟩;rw [HE.out,HN.out];simp;omega
     .have t3:decide ((N:Int)<1)=true:=soA;go_wp2_with fail;go_quiet (fail);go_wp2_with fail;go_ret2;refine ⟨a1,n1,c1,vs,?_,by rw [HE.out];exact hown.drew _,bW hb _⟩;rw [HE.out,HN.out];simp;omega
def gz (m:Nat):Int:=if m=0 then 2 else if 65536<m then 3 else 0
def ll (l:List UInt8):List UInt8:=if l.length=0\/65536<l.length then [] else bj l
theorem zu (a:Option Addr) (len cap:Nat) (l:List UInt8) (w:World) (hl:ah w a l) (hlen:l.length=len):
  Calls prog 115 #[.slice a len cap] w fun e w'=>∃a' n' c',e= .returned (.tuple #[.slice a' n' c',.int .i64 (gz len)])/\ah w' a' (ll l)/\(ll l).length=n'/\Below w.heap.size w w':=by
 by_cases h0:len=0
 .subst h0;refine (vW a cap w).mono ?_;rintro e w' ⟨rfl,rfl⟩;have e:ll l=[]:=(by unfold ll;rw [if_pos (.inl hlen)]);exact ⟨none,0,0,rfl,by rw [e];exact aw.nil _ _,by rw [e];rfl,AT _ _⟩
 .by_cases h1:65536<len
  .refine (vX a len cap w h1).mono ?_;rintro e w' ⟨rfl,rfl⟩;have e:ll l=[]:=(by unfold ll;rw [if_pos (.inr oA)]);exact ⟨none,0,0,by unfold gz;rw [if_neg h0,if_pos h1],by rw [e];exact aw.nil _ _,by rw [e];rfl,AT _ _⟩
  .refine (zt a len cap l w hl hlen oA oA).mono ?_;rintro e w' ⟨a',c',rfl,h,hb⟩;have e:ll l=bj l:=(by unfold ll;rw [if_neg oA]);exact ⟨a',8+len,c',by unfold gz;rw [if_neg h0,if_neg h1],by rw [e];exact h.row,by rw [e,bM,hlen],hb⟩
end
section
open Go.RowKit Go.Maps
section
variable {w w1 w2 w3:World} {B:Nat} {r:aF} {R:jP}
theorem mi {a:Option Addr} {c x:Nat} (h:bE a c=some x):∃ad,a=some ad/\x=ad.block:=by
 unfold bE at h;split at h
 .cases h
 .rw [WR] at h;obtain ⟨ad,h1,rfl⟩:=h;exact ⟨ad,h1,rfl⟩
theorem Hu {a:Option Addr} {c:Nat} {ad:Addr} (h:a=some ad) (hc:0<c):bE a c=some ad.block:=by
 subst h;unfold bE;rw [if_neg oA];rfl
theorem Ai (h:DL w1 B r R) (hB:B<=w1.heap.size) {A:Option Addr} {m C:Nat} {l:List UInt8} (hb:Below w1.heap.size w1 w2) (hm:l.length=m) (hx:Own w2 w1.heap.size 5 1 A m C (l.map bv)) {a2:Option Addr} {c2:Nat}
  (h':Own w3 B 22 1 a2 (R.ls.length+1) c2 (R.vs++ [.slice A m C])) (hg:w2.grownBy w3 (bE R.a R.c)) (hr:bE a2 c2=bE R.a R.c\/∃b,bE a2 c2=some b/\w2.heap.size<=b) (hcnt:R.ls.length<4096) (hlen:l.length<=65536):
  iq B w1 r R (w3.setCell ⟨R.l,2,none⟩ (.slice a2 (R.ls.length+1) c2)) r {R with a:=a2,c:=c2,vs:=R.vs++ [.slice A m C],ls:=R.ls++ [l]}:=by
 have hc2:0<c2:=(by have:=h'.le;omega);have hrow2:=h.log.rows.old hb;have hgo:w2.grownBy w3 (Value.slice R.a R.ls.length R.c).ownBlock:=by
  refine ⟨hg.os,hg.tape,hg.output,hg.size,fun k hk hne=>hg.block k hk fun e=> ?_⟩;obtain ⟨ad,h1,rfl⟩:=mi e.symm;rw [h1] at hne;exact hne rfl
 have hpc:=hrow2.snoc (x:=l) dcA hgo hm hx hB h';have htF:aJ (fun k=>k=R.l\/∃ad,R.a=some ad/\k=ad.block) w1 (w3.setCell ⟨R.l,2,none⟩ (.slice a2 (R.ls.length+1) c2)):=by
  refine aJ.setCell ?_ (.inl (.inl rfl)) _;refine (aJ.of_below hb).trans (aJ.of_grown (F:=fun k=>∃ad,R.a=some ad/\k=ad.block) hg fun k e=>mi e) fun k hk=> .inl (.inr hk)
 have hlf:∀k,(k=R.l\/∃ad,R.a=some ad/\k=ad.block)->dJ R k:=fun k hk=>hk.elim .inl fun h=> .inr (.inl h);have hnew:∀ad,a2=some ad->(∃ad',R.a=some ad'/\ad.block=ad'.block)\/w1.heap.size<=ad.block:=fun ad ha=>by
  have e:=Hu ha hc2;rcases hr with hr|⟨b,hr,hb2⟩
  .rw [e] at hr;exact .inl (mi hr.symm)
  .rw [e] at hr;cases hr;exact .inr (At hb.size hb2)
 have hA:∀ad m' C',Value.slice (some ad) m' C'= .slice A m C->w1.heap.size<=ad.block:=fun ad m' C' e=>by
  simp only [VC] at e;exact (hx.block_lt e.1.symm).1
 have hl3:Blk w3 R.l #[.pointer (some ⟨r.d,0,none⟩),.string R.nm,.slice R.a R.ls.length R.c,.int .i64 (R.sure:Int)] 164:=by
  refine (h.log.blk.old hb).grown hg fun e=> ?_;obtain ⟨ad,h1,h2⟩:=mi e;obtain ⟨_,_,cur,hcur⟩:=h.log.rows.1.block_lt h1;exact Blk.ne hcur h.log.blk dcA h2.symm
 have hother:∀x,x≠R.l->(w3.setCell ⟨R.l,2,none⟩ (.slice a2 (R.ls.length+1) c2)).heap[x]? =w3.heap[x]? :=fun x hx=>VU w3 ⟨R.l,2,none⟩ x _ hx;have hlog:ld (w3.setCell ⟨R.l,2,none⟩ (.slice a2 (R.ls.length+1) c2)) B r.d {R with a:=a2,c:=c2,vs:=R.vs++ [.slice A m C],ls:=R.ls++ [l]}:=by
  refine ⟨h.log.ge,?_,?_,soA,?_,h.log.nmz,by have:=h.log.sle;simp;omega⟩
  .have:=hl3.set 2 (.slice a2 (R.ls.length+1) c2);simpa using this
  .rw [show (R.ls++ [l]).length=R.ls.length+1 by simp];refine hpc.keep (fun x hx=>hother _ ?_) (fun ad m' C' hm'=>hother _ ?_)
   .obtain ⟨_,_,cur,hcur⟩:=hpc.1.block_lt hx;exact Blk.ne hcur hl3 dcA
   .obtain ⟨_,_,cur,hcur⟩:=hpc.inner hm';exact Blk.ne hcur hl3 dcA
  .intro x hx;rcases VQ.1 hx with hx|hx
   .exact h.log.lens x hx
   .rw [VH.1 hx];exact hlen
 have hdisk:aG (w3.setCell ⟨R.l,2,none⟩ (.slice a2 (R.ls.length+1) c2)) B r:=h.disk.turn htF fun x hx hF=>h.apart x (hlf x hF) hx;have hfoot:∀x,dJ {R with a:=a2,c:=c2,vs:=R.vs++ [.slice A m C],ls:=R.ls++ [l]} x->dJ R x\/w1.heap.size<=x:=by
  intro x hx;rcases hx with rfl|⟨ad,ha,rfl⟩|⟨ad,m',C',hm',rfl⟩
  .exact .inl (.inl rfl)
  .rcases hnew ad ha with ⟨ad',h1,h2⟩|h1
   .exact .inl (.inr (.inl ⟨ad',h1,h2⟩))
   .exact .inr h1
  .rcases VQ.1 hm' with hm'|hm'
   .exact .inl (.inr (.inr ⟨ad,m',C',hm',rfl⟩))
   .exact .inr (hA ad m' C' (VH.1 hm'))
 refine ⟨htF.mono fun k hk=> .inr (hlf k hk),⟨hdisk,hlog,fun x hx hf=> ?_⟩,fun x hx=> ?_,rfl,rfl,rfl⟩
 .rcases hfoot x hx with h1|h1
  .exact h.apart x h1 hf
  .have:=(h.disk.lt hf).2;omega
 .rcases hx with hx|hx
  .exact .inl (.inl hx)
  .rcases hfoot x hx with h1|h1
   .exact .inl (.inr h1)
   .exact .inr h1
theorem DP (h:DL w B r R) (n:Nat) (hn:n=R.ls.length):iq B w r R (w.setCell ⟨R.l,3,none⟩ (.int .i64 (n:Int))) r {R with sure:=n}:=by
 subst hn;have ht:aJ (fun k=>k=R.l) w (w.setCell ⟨R.l,3,none⟩ (.int .i64 (R.ls.length:Int))):=(aJ.refl (fun k=>k=R.l) w).setCell (x:=⟨R.l,3,none⟩) (.inl rfl) _;have ho:∀x,x≠R.l->(w.setCell ⟨R.l,3,none⟩ (.int .i64 (R.ls.length:Int))).heap[x]? =w.heap[x]? :=fun x hx=>VU w ⟨R.l,3,none⟩ x _ hx;refine ⟨ht.mono fun k hk=> .inr (.inl hk),⟨h.disk.turn ht fun x hx e=>h.apart x (.inl e) hx,⟨h.log.ge,?_,?_,h.log.cnt,h.log.lens,h.log.nmz,Lt _⟩,h.apart⟩,fun x hx=> .inl hx,rfl,rfl,rfl⟩
 .have:=h.log.blk.set 3 (.int .i64 (R.ls.length:Int));simpa using this
 .refine h.log.rows.keep (fun x hx=>ho _ ?_) (fun ad m' C' hm'=>ho _ ?_)
  .obtain ⟨_,_,cur,hcur⟩:=h.log.rows.1.block_lt hx;exact Blk.ne hcur h.log.blk dcA
  .obtain ⟨_,_,cur,hcur⟩:=h.log.rows.inner hm';exact Blk.ne hcur h.log.blk dcA
end
def jT (p:aM) (R:jP) (l:List UInt8):Int:=if gz l.length≠0 then gz l.length else if 4096<=R.ls.length then 100 else (bt p R.nm (bj l)).2
def nj (p:aM) (R:jP) (l:List UInt8):aM:=if gz l.length≠0 then p else if 4096<=R.ls.length then p else (bt p R.nm (bj l)).1
def qO (p:aM) (R:jP) (l:List UInt8):List (List UInt8):=if jT p R l=0 then R.ls++ [l] else R.ls
def qP (p:aM) (R:jP) (l:List UInt8):Int:=if jT p R l=0 then (R.ls.length:Int) else 0
theorem Cj {p:aM} {R:jP} {l:List UInt8} (h:gz l.length=0) (h2:4096<=R.ls.length):jT p R l=100/\qP p R l=0/\nj p R l=p/\qO p R l=R.ls:=by
 have e:jT p R l=100:=(by unfold jT;rw [if_neg (by simp [h]),if_pos h2]);refine ⟨e,by unfold qP;rw [e];rfl,by unfold nj;rw [if_neg (by simp [h]),if_pos h2],by unfold qO;rw [e];rfl⟩
theorem ES {p:aM} {R:jP} {l:List UInt8} (h:gz l.length≠0):jT p R l=gz l.length/\qP p R l=0/\nj p R l=p/\qO p R l=R.ls:=by
 have e:jT p R l=gz l.length:=(by unfold jT;rw [if_pos h]);refine ⟨e,by unfold qP;rw [e,if_neg h],by unfold nj;rw [if_pos h],by unfold qO;rw [e,if_neg h]⟩
theorem Ck {p:aM} {R:jP} {l:List UInt8} (h:gz l.length=0) (h2:¬4096<=R.ls.length) (h3:(bt p R.nm (bj l)).2≠0):jT p R l=(bt p R.nm (bj l)).2/\qP p R l=0/\nj p R l=(bt p R.nm (bj l)).1/\qO p R l=R.ls:=by
 have e:jT p R l=(bt p R.nm (bj l)).2:=(by unfold jT;rw [if_neg (by simp [h]),if_neg h2]);refine ⟨e,by unfold qP;rw [e,if_neg h3],by unfold nj;rw [if_neg (by simp [h]),if_neg h2],by unfold qO;rw [e,if_neg h3]⟩
theorem II {p:aM} {R:jP} {l:List UInt8} (h:gz l.length=0) (h2:¬4096<=R.ls.length) (h3:(bt p R.nm (bj l)).2=0):jT p R l=0/\qP p R l=(R.ls.length:Int)/\nj p R l=(bt p R.nm (bj l)).1/\qO p R l=R.ls++ [l]:=by
 have e:jT p R l=0:=(by unfold jT;rw [if_neg (by simp [h]),if_neg h2,h3]);refine ⟨e,by unfold qP;rw [e,if_pos rfl],by unfold nj;rw [if_neg (by simp [h]),if_neg h2],by unfold qO;rw [e,if_pos rfl]⟩
theorem Bw {l:List UInt8} (h:gz l.length=0):1<=l.length/\l.length<=65536/\ll l=bj l:=by
 unfold gz at h;unfold ll;split at h
 .omega
 .split at h
  .omega
  .exact ⟨oA,oA,by rw [if_neg oA]⟩
def Dv (B:Nat) (w:World) (r:aF) (R:jP) (l:List UInt8) (e:Ending) (w':World):Prop:=
 e= .returned (.tuple #[.int .i64 (qP r.p R l),.int .i64 (jT r.p R l)])/\∃r' R',r'.p=nj r.p R l/\R'.ls=qO r.p R l/\R'.sure=R.sure/\iq B w r R w' r' R'
theorem wI (w:World) (B:Nat) (r:aF) (R:jP) (h:DL w B r R) (hB:B<=w.heap.size) (a:Option Addr) (len cap:Nat) (l:List UInt8) (hl:ah w a l) (hlen:l.length=len) (hna:l≠ []->∀ad,a=some ad->¬(eM r ad.block\/dJ R ad.block)):
  Calls prog 55 #[.pointer (some ⟨R.l,0,none⟩),.slice a len cap] w fun e w'=>Dv B w r R l e w':=by
 have HL:=Hd hlen;have hrec:=zu a len cap l w hl hlen;clear hlen;have hb0:=h.log.blk.rule;by_cases he:gz l.length=0
 .rw [<-HL.out,he] at hrec;have HO:=Hd (Bw he);by_cases hfull:4096<=R.ls.length
  .have HC:=Hd (Cj (p:=r.p) he hfull);have t0:decide ((4096:Int)<=(R.ls.length:Int))=true:=soA;clear he hfull;go_enter func55,ntmps55;go_wp2_with fail;rw [HL.out] at hrec;refine hrec.mono ?_;clear hrec;rintro e w1 ⟨a1,n1,c1,rfl,hr1,hn1,hb1⟩;have h1:=h.old hb1;have hb1':=h1.log.blk.rule;clear hb0;go_wp2_with fail;go_ret2;obtain ⟨c1,c2,c3,c4⟩:=HC.out;exact ⟨by rw [c1,c2];first|rfl|simp,r,R,c3.symm,c4.symm,rfl,iq.old h hb1⟩
  .have t0:decide ((4096:Int)<=(R.ls.length:Int))=false:=soA;have HF:=Hd hfull;have HE:=Hd he;clear he hfull;go_enter func55,ntmps55;go_wp2_with fail;rw [HL.out] at hrec;refine hrec.mono ?_;clear hrec;rintro e w1 ⟨a1,n1,c1,rfl,hr1,hn1,hb1⟩;rw [HO.out.2.2] at hr1 hn1;have h1:=h.old hb1;have hb1':=h1.log.blk.rule;have hsz1:=hb1.size;have hsz1':B<=w1.drew.heap.size:=At hB hsz1;have h1d:DL w1.drew B r R:=h1.keep fun _ _=>rfl;have HN1:=Hd hn1;have hn1m:n1<=maxLen:=(by have:=HO.out.2.1;rw [<-hn1,bM];unfold maxLen;omega);clear hb0 hn1;go_wp2_with fail;have hkl:∀W,aq (fun x=>x=R.l) w1.drew W->Blk W R.l #[.pointer (some ⟨r.d,0,none⟩),.string R.nm,.slice R.a R.ls.length R.c,.int .i64 (R.sure:Int)] 164:=fun W hW=>(hW.2 R.l rfl).trans h1.log.blk;have l0:=fun W (hW:aq (fun x=>x=R.l) w1.drew W)=>(hkl W hW).rule;clear hb1';refine aj false (aq (fun x=>x=R.l)) (aq.refl _) (fun _ _ _ h1 h2=>aq.trans h1 h2) (.step 0 (.step 1 (.step 2 (.step 3 (.step 4 (.step 5 (.step 6 (.step 7 (.step 8 (.step 9 (.step 10 (.step 11 (.step 12 .done))))))))))))) krA krA cdA ?_
   repeat (first|refine tsA ?_|refine tqA ?_)
   refine an rfl rfl rfA (fun K hK=> ?_);go_wp2_with fail;refine (rQ w1.drew B r R.nm h1.disk.drew hsz1' h1.log.nmz a1 n1 c1 (bj l) (hr1.drew) HN1.out hn1m).mono ?_;rintro e w2 ⟨rfl,r2,hr2,hs2⟩;have hs12:iq B w1.drew r R w2 r2 R:=ct.log hs2 h1d;refine hK _ _ ⟨hs2.turn.size,fun x hx=>by subst hx;exact hs2.turn.block R.l h1.log.blk.lt (h1.apart R.l (.inl rfl))⟩ ?_;clear hK K l0 hkl
   repeat (first|refine tsA ?_|refine tqA ?_)
   refine ap ?_;have hs02:iq B w r R w2 r2 R:=(iq.old h (hb1.drew)).trans hs12;have h2:=hs12.at';have hb2':=h2.log.blk.rule;have hz2:B<=w2.heap.size:=At hsz1' hs2.turn.size;by_cases hap:(bt r.p R.nm (bj l)).2=0
   .have HC:=Hd (II (p:=r.p) (R:=R) HE.out HF.out hap);rw [hap];have HAP:=Hd hap;have HR2:=Hd hr2;clear hap hr2 h1 h1d hs12 hs2 hr1;go_wp2_with fail;have hkl:∀W,aq (fun x=>x=R.l) w2.drew W->Blk W R.l #[.pointer (some ⟨r2.d,0,none⟩),.string R.nm,.slice R.a R.ls.length R.c,.int .i64 (R.sure:Int)] 164:=fun W hW=>(hW.2 R.l rfl).trans h2.log.blk;have l0:=fun W (hW:aq (fun x=>x=R.l) w2.drew W)=>(hkl W hW).rule;clear hb2';refine aj true (aq (fun x=>x=R.l)) (aq.refl _) (fun _ _ _ h1 h2=>aq.trans h1 h2) (.step 0 (.step 1 (.step 2 (.step 3 (.step 4 (.step 5 (.step 6 (.step 7 (.step 8 (.step 9 (.step 10 (.step 11 .done)))))))))))) krA krA cdA ?_
    repeat (first|refine tsA ?_|refine tqA ?_)
    refine an rfl rfl rfA (fun K hK=> ?_);go_wp2_with fail;have hlw:ah w2.drew a l:=aw.drew (aw.turn hl hs02.turn (hna (fun e=>by have:=HO.out.1;rw [e] at this;simp at this)));refine (js a len cap l w2.drew hlw HL.out (by have:=HO.out.2.1;have:=HL.out;omega)).mono ?_;rintro e w3 ⟨a3,c3,rfl,hown3,hb3⟩;refine hK _ _ (aq.below hb3 fun x hx=>by subst hx;exact h2.log.blk.lt) ?_;clear hK K
    repeat (first|refine tsA ?_|refine tqA ?_)
    refine an rfl rfl rfA (fun K hK=> ?_);go_wp2_with fail;have hbl3:Below w3.heap.size w3 (w3.alloc (.cells #[.slice a3 len c3] 22)):=(AT _ _).alloc (Lt _) _;have hb23:Below w2.heap.size w2 (w3.alloc (.cells #[.slice a3 len c3] 22)):=ae (ae (AT _ w2).drew hb3) hbl3;have hl3:R.l<w3.heap.size:=VF h2.log.blk.lt (show w2.heap.size<=w3.heap.size from hb3.size);refine hK _ _ (aq.below hbl3 fun x hx=>by subst hx;exact hl3) ?_;clear hK K
    repeat (first|refine tsA ?_|refine tqA ?_)
    refine an rfl rfl rfA (fun K hK=> ?_);have hz4:B<=(w3.alloc (.cells #[.slice a3 len c3] 22)).heap.size:=At hz2 hb23.size;refine ke (.tmp 46) (.tmp 49) 124 rfl wk rfl (h2.log.rows.1.old hb23) rfl (aw.new' w3 #[.slice a3 len c3] 22 _ rfl) rfl oA (by exact dg _ rfl) (by have:=HF.out;unfold maxLen;omega) (by have:=HF.out;omega) hz4 ?_;intro a4 c4 w4 hown4 hg4 hr4;have hl4:R.l<(w3.alloc (.cells #[.slice a3 len c3] 22)).heap.size:=VF hl3 hbl3.size;have hne4:∀(he:bE R.a R.c=some R.l),False:=fun e=>by
     obtain ⟨ad,q1,q2⟩:=mi e;obtain ⟨_,_,cur,hcur⟩:=h2.log.rows.1.block_lt q1;exact Blk.ne hcur h2.log.blk dcA q2.symm
    refine hK _ _ ⟨hg4.size,fun x hx=>by subst hx;exact hg4.block R.l hl4 fun e=>hne4 e.symm⟩ ?_;clear hK K l0 hkl;have HST:=Hd (Ai h2 hz2 hb23 HL.out (hown3.old hbl3) hown4 hg4 hr4 (by have:=HF.out;omega) HO.out.2.1);have hl5:Blk w4 R.l #[.pointer (some ⟨r2.d,0,none⟩),.string R.nm,.slice R.a R.ls.length R.c,.int .i64 (R.sure:Int)] 164:=(h2.log.blk.old hb23).grown hg4 hne4;have c0:=hl5.rule;have c1:=hl5.free
    repeat (first|refine tsA ?_|refine tqA ?_)
    refine az rfl rfl rfA (fun K hK=> ?_);go_wp2_with fail;refine ap ?_;have c2:(w4.setCell ⟨R.l,2,none⟩ (.slice a4 (R.ls.length+1) c4)).cell? ⟨R.l,2,none⟩=some (.slice a4 (R.ls.length+1) c4):=World.cell?_setCell_same' w4 _ _ (by rw [c0];rfl);clear c0 c1;go_wp2_with fail;go_ret2;obtain ⟨q1,q2,q3,q4⟩:=HC.out;have hw:wrap64 (R.ls.length:Int)=(R.ls.length:Int):=IntWalk.wrap64_in _ (by have:=HF.out;omega);refine ⟨by rw [q1,q2];simp [hw],r2,{R with a:=a4,c:=c4,vs:=R.vs++ [.slice a3 len c3],ls:=R.ls++ [l]},HR2.out.trans q3.symm,q4.symm,rfl,hs02.trans HST.out⟩
   .have HC:=Hd (Ck (p:=r.p) (R:=R) HE.out HF.out hap);have HAP:=Hd hap;have t1:((bt r.p R.nm (bj l)).2==0)=false:=(by simpa using hap);have t2:((bt r.p R.nm (bj l)).2 !=0)=true:=(by simpa using hap);clear hap;go_wp2_with fail;go_ret2;obtain ⟨c1,c2,c3,c4⟩:=HC.out;exact ⟨by rw [c1,c2];first|rfl|simp,r2,R,hr2.trans c3.symm,c4.symm,rfl,hs02⟩
 .have HC:=Hd (ES (p:=r.p) (R:=R) he);have HE:=Hd he;have t0:(gz len==0)=false:=(by rw [<-HL.out];simpa using he);clear he;go_enter func55,ntmps55;go_wp2_with fail;refine hrec.mono ?_;clear hrec;rintro e w1 ⟨a1,n1,c1,rfl,hr1,hn1,hb1⟩;have h1:=h.old hb1;have hb1':=h1.log.blk.rule;clear hb0;go_wp2_with fail;go_ret2;obtain ⟨c1,c2,c3,c4⟩:=HC.out;exact ⟨by rw [c1,c2,HL.out];first|rfl|simp,r,R,c3.symm,c4.symm,rfl,iq.old h hb1⟩
def Cd (p:aM) (R:jP):Nat:=if (eL p R.nm).2=0 then R.ls.length else R.sure
theorem Cc (w:World) (B:Nat) (r:aF) (R:jP) (h:DL w B r R) (hB:B<=w.heap.size):
  Calls prog 57 #[.pointer (some ⟨R.l,0,none⟩)] w fun e w'=>e= .returned (.int .i64 (eL r.p R.nm).2)/\∃r' R',r'.p=(eL r.p R.nm).1/\R'.ls=R.ls/\R'.sure=Cd r.p R/\iq B w r R w' r' R':=by
 have hkl:∀W,aq (fun x=>x=R.l) w.drew W->Blk W R.l #[.pointer (some ⟨r.d,0,none⟩),.string R.nm,.slice R.a R.ls.length R.c,.int .i64 (R.sure:Int)] 164:=fun W hW=>(hW.2 R.l rfl).trans h.log.blk;have l0:=fun W (hW:aq (fun x=>x=R.l) w.drew W)=>(hkl W hW).rule;have hd:DL w.drew B r R:=h.keep fun _ _=>rfl;go_enter func57,ntmps57;go_wp2_with fail;refine aj false (aq (fun x=>x=R.l)) (aq.refl _) (fun _ _ _ h1 h2=>aq.trans h1 h2) (.step 0 (.step 1 (.step 2 (.step 3 (.step 4 (.step 5 (.step 6 (.step 7 (.step 8 (.step 9 (.step 10 (.step 11 .done)))))))))))) krA krA cdA ?_
 repeat (first|refine tsA ?_|refine tqA ?_)
 refine an rfl rfl rfA (fun K hK=> ?_);go_wp2_with fail;refine (xG w.drew B r R.nm h.disk.drew hB h.log.nmz).mono ?_;rintro e w2 ⟨rfl,r2,hr2,hs2⟩;have hs12:iq B w.drew r R w2 r2 R:=ct.log hs2 hd;have hs02:iq B w r R w2 r2 R:=(iq.old h ((AT _ w).drew)).trans hs12;refine hK _ _ ⟨hs2.turn.size,fun x hx=>by subst hx;exact hs2.turn.block R.l h.log.blk.lt (h.apart R.l (.inl rfl))⟩ ?_;clear hK K l0 hkl
 repeat (first|refine tsA ?_|refine tqA ?_)
 refine ap ?_;have h2:=hs12.at';have c0:=h2.log.blk.rule;have c1:=h2.log.blk.free;by_cases hap:(eL r.p R.nm).2=0
 .have HR:=Hd hr2;have HST:=Hd (DP h2 R.ls.length rfl);have HAP:=Hd hap;rw [hap];clear hr2 hap;go_wp2_with fail;go_ret;exact ⟨by rw [HAP.out];first|rfl|simp,r2,{R with sure:=R.ls.length},HR.out,rfl,by unfold Cd;rw [if_pos HAP.out],hs02.trans HST.out⟩
 .have t1:((eL r.p R.nm).2==0)=false:=(by simpa using hap);have HAP:=Hd hap;clear hap;go_wp2_with fail;go_ret;exact ⟨rfl,r2,R,hr2,rfl,by unfold Cd;rw [if_neg HAP.out],hs02⟩
theorem ud (f:Nat) (b:List UInt8):∀x∈(scan f b).1,x.length<=65536:=by
 induction f generalizing b with
 |zero=>simp [scan]
 |succ f ih=>
  by_cases h:iz b=true
  .rw [jm h];intro x hx;rcases Ve.1 hx with rfl|hx
   .unfold iz at h;simp only [VN,Xq] at h;unfold fS;rw [ltA];omega
   .exact ih _ x hx
  .rw [gO (by simpa using h)];simp
theorem kr {p:aM} (h:dN p) (nm:bz):(bG p nm).1.length<=1048576:=by
 unfold bG;split
 .simp
 .cases hf:eW p nm with
  |none=>simp
  |some f=>exact h.size f (CE hf).1
def FM (B:Nat) (w:World) (r:aF) (nm:bz) (e:Ending) (w':World):Prop:=
 ∃r',r'.p=fU r.p nm/\ct B w r w' r'/\
  ((dH r.p nm≠0/\e= .returned (.tuple #[.pointer none,.int .i64 0,.int .i64 (dH r.p nm)]))\/
   (dH r.p nm=0/\∃R,e= .returned (.tuple #[.pointer (some ⟨R.l,0,none⟩),.int .i64 (ii r.p nm:Int),.int .i64 0])/\DL w' B r' R/\R.nm=nm/\R.ls=(cW r.p nm).1/\R.sure=R.ls.length/\∀x,dJ R x->w.heap.size<=x))
theorem sN {p:aM} {nm:bz} (h:(bS p nm).2≠0):dH p nm=(bS p nm).2/\fU p nm=(bS p nm).1:=⟨by unfold dH;rw [if_pos h],by unfold fU;rw [if_pos h]⟩
theorem pJ {p:aM} {nm:bz} (h:(bS p nm).2=0) (h2:(aY p nm).2≠0):dH p nm=(aY p nm).2/\fU p nm=(aY p nm).1:=
 ⟨by unfold dH;rw [if_neg (by simp [h]),if_pos h2],by unfold fU;rw [if_neg (by simp [h]),if_pos h2]⟩
theorem ng {p:aM} {nm:bz} (h:(bS p nm).2=0) (h2:(aY p nm).2=0):dH p nm=(dD p nm).2/\fU p nm=(dD p nm).1:=
 ⟨by unfold dH;rw [if_neg (by simp [h]),if_neg (by simp [h2])],by unfold fU;rw [if_neg (by simp [h]),if_neg (by simp [h2])]⟩
theorem Ir {w0 w:World} {B:Nat} {r:aF} {nm:bz} (h:aG w B r) (h0:w0.heap.size<=w.heap.size) (hB:B<=w0.heap.size) (hs:nm.size<=maxLen) {a:Option Addr} {n c:Nat} {vs:List Value} {ls:List (List UInt8)} (hp:aO w w0.heap.size 22 5 a n c vs ls) (hcnt:ls.length<=4096) (hlen:∀x∈ls,x.length<=65536)
  (hna:∀x,((∃ad,a=some ad/\x=ad.block)\/∃ad m C,Value.slice (some ad) m C∈vs/\x=ad.block)->¬eM r x):
  DL (w.alloc (.cells #[.pointer (some ⟨r.d,0,none⟩),.string nm,.slice a n c,.int .i64 (n:Int)] 164)) B r ⟨w.heap.size,nm,a,c,vs,ls,ls.length⟩:=by
 have hn:=hp.length;subst hn;have hb:Below w.heap.size w (w.alloc (.cells #[.pointer (some ⟨r.d,0,none⟩),.string nm,.slice a ls.length c,.int .i64 (ls.length:Int)] 164)):=(AT _ _).alloc (Lt _) _;refine ⟨h.old hb,⟨At hB h0,Blk.new _ _ _,(hp.lower hB).old hb,hcnt,hlen,hs,Lt _⟩,fun x hx hf=> ?_⟩;rcases hx with rfl|hx
 .have:=(h.lt hf).2;exact Nat.lt_irrefl _ this
 .exact hna x hx hf
theorem uN (w:World) (B:Nat) (r:aF) (nm:bz) (h:aG w B r) (hB:B<=w.heap.size) (hs:nm.size<=maxLen):
  Calls prog 47 #[.pointer (some ⟨r.d,0,none⟩),.string nm] w fun e w'=>FM B w r nm e w':=by
 have HRL:=Hd (kr h.ok nm);go_enter func47,ntmps47;go_wp2_with fail;refine (sD w B r nm h hs).mono ?_;rintro e w1 ⟨a,n,c,rfl,hn,hown,hb1⟩;have HN:=Hd hn;have h1:=h.old hb1;have hs1:ct B w r w1 r:=⟨aJ.of_below hb1,h1,fun _ hx=> .inl hx,rfl⟩;have hz1:B<=w1.heap.size:=At hB hb1.size;clear hn;go_upto_if 19 with (fail);go_cut [6] from 19 (fun v wx=>v= .int .i64 (bS r.p nm).2/\∃r1,r1.p=(bS r.p nm).1/\ct B w r wx r1/\(∀x,eM r1 x->eM r x\/w1.heap.size<=x)/\wx.heap.size≥w1.heap.size/\Own wx w.heap.size 5 1 a n c ((bG r.p nm).1.map bv))
 case first=>
  by_cases h4:(bG r.p nm).2=4
  .have t0:((bG r.p nm).2==4)=true:=(by simpa using h4);have HM:=Hd (show bS r.p nm=ew r.p nm by unfold bS;rw [if_pos h4]);clear h4;go_wp2_with fail;refine (yp w1 B r nm h1 hz1 hs).mono ?_;rintro e w2 ⟨rfl,r1,hr1,hs2⟩;go_wp2_with fail;go_meet
   case rel=>
    rw [HM.out];exact ⟨rfl,r1,hr1,hs1.trans hs2,hs2.foot',hs2.turn.size,hown.keepAt fun x hx=>hs2.turn.block x.block (hown.block_lt hx).2.1 (fun hf=>by
     have g1:=(hown.block_lt hx).1;have g2:=(h.lt hf).2;omega)⟩
  .have t0:((bG r.p nm).2==4)=false:=(by simpa using h4);have HM:=Hd (show bS r.p nm=(r.p,(bG r.p nm).2) by unfold bS;rw [if_neg h4]);clear h4;go_wp2_with fail;go_meet
   case rel=>
    rw [HM.out];exact ⟨rfl,r,rfl,hs1,fun x hx=> .inl hx,Lt _,hown⟩
 case rest=>
  obtain ⟨wa,rfl⟩:∃wa:World,wa=wc:=⟨_,rfl⟩;obtain ⟨rfl,r1,hr1,hs2,hf1,hz2,hown1⟩:=hcut;have h2:=hs2.at';have HR1:=Hd hr1;have hd1:=hs2.d;have hzc:B<=wa.heap.size:=At hz1 hz2;clear hr1 hown h1 hs1;by_cases hmk:(bS r.p nm).2=0
  .have HMK:=Hd hmk;rw [hmk];clear hmk;have hsc:=Ea a n c (bG r.p nm).1 wa hown1.row HN.out (by have:=HRL.out;have:=HN.out;omega) hown1.le;rw [show scan iU (bG r.p nm).1=cW r.p nm from rfl] at hsc;obtain ⟨bad,hbd⟩:=Le ((cW r.p nm).2.length);have hble:bad<=n:=(by have:=pA iU (bG r.p nm).1;have:=HN.out;rw [hbd];show (scan iU (bG r.p nm).1).2.length<=n;omega);rw [<-hbd] at hsc;have HBD:=Hd hbd;clear hbd;go_step;go_wp2_with fail;refine hsc.mono ?_;clear hsc;rintro e w3 ⟨a2,n2,c2,vs,rfl,hp3,hb3⟩;have hn2:n2<=4096:=(by have h9:(cW r.p nm).1.length<=iU:=mY iU _;have:=hp3.length;have:=je;omega);have hnn:n<=1048576:=(by have:=HRL.out;have:=HN.out;omega);have h3:=h2.old hb3;have hz3:B<=w3.heap.size:=At hzc hb3.size;have hf3:∀x,eM r1 x->x<wa.heap.size:=fun x hx=>(h2.lt hx).2;have hs3:ct B w r w3 r1:=hs2.trans ⟨aJ.of_below hb3,h3,fun _ hx=> .inl hx,rfl⟩;have hbel3:=hb3.size;clear hown1 hs2;go_upto_if 32 with (fail);go_cut [] from 32 (fun wx=>(aY r.p nm).2=0/\∃r2,r2.p=(aY r.p nm).1/\ct B w r wx r2/\(∀x,eM r2 x->x<wa.heap.size\/w3.heap.size<=x)/\w3.heap.size<=wx.heap.size/\aO wx wa.heap.size 22 5 a2 n2 c2 vs (cW r.p nm).1)
   case first=>
    by_cases hbad:bad=0
    .have HC:=Hd (show aY r.p nm=((bS r.p nm).1,0) by unfold aY;rw [<-HBD.out,if_pos hbad]);have t2:¬0<bad:=oA;have HB:=Hd hbad;clear hbad;go_wp2_with fail;go_meet
     case rel=>
      rw [HC.out];exact ⟨rfl,r1,HR1.out,hs3,fun x hx=> .inl (hf3 x hx),Lt _,hp3⟩
    .have HC:=Hd (show aY r.p nm=jh (bS r.p nm).1 nm (((bG r.p nm).1.length-bad:Nat):Int) by unfold aY;rw [<-HBD.out,if_neg hbad]);have t2:0<bad:=oA;have HB:=Hd hbad;clear hbad;have hc:=CQ w3 B r1 nm ((n:Int)-(bad:Int)) h3 hs;have HCC:=Hd (show jh r1.p nm ((n:Int)-(bad:Int))=aY r.p nm by
      rw [HC.out,HR1.out,HN.out,show ((n-bad:Nat):Int)=(n:Int)-(bad:Int) from by omega])
     rw [HCC.out,hd1] at hc;go_wp2_with fail;refine hc.mono ?_;clear hc;rintro e w4 ⟨rfl,r2,hr2,hs4⟩;by_cases hcu:(aY r.p nm).2=0
     .have HCU:=Hd hcu;rw [hcu];clear hcu;go_wp2_with fail;go_meet
      case rel=>
       refine ⟨HCU.out,r2,hr2,hs3.trans hs4,fun x hx=> ?_,hs4.turn.size,?_⟩
       .rcases hs4.foot' x hx with g|g
        .exact .inl (hf3 x g)
        .exact .inr g
       .refine hp3.keep (fun x hx=>hs4.turn.block x.block (hp3.1.block_lt hx).2.1 fun hf=> ?_) (fun ad m C hm=>hs4.turn.block ad.block (hp3.inner hm).2.1 fun hf=> ?_)
        .have g1:=hf3 _ hf;have g2:=(hp3.1.block_lt hx).1;omega
        .have g1:=hf3 _ hf;have g2:=(hp3.inner hm).1;omega
     .have HE:=Hd (pJ HMK.out hcu);have t3:((aY r.p nm).2 !=0)=true:=(by simpa using hcu);have HCU:=Hd hcu;clear hcu;go_wp2_with fail;go_ret3;refine ⟨r2,hr2.trans HE.out.2.symm,hs3.trans hs4,.inl ⟨by rw [HE.out.1];exact HCU.out,?_⟩⟩;rw [HE.out.1]
      first|rfl|simp
   case rest=>
    obtain ⟨hcu,r2,hr2,hs4,hf4,hz4,hp4⟩:=hcut;have h4:=hs4.at';have HES:=Hd (ng HMK.out hcu);have HR2:=Hd hr2;have hB4:B<=wc.heap.size:=At hz3 hz4;have hsy:=xG wc B r2 nm h4 hB4 hs;rw [hr2,show eL (aY r.p nm).1 nm=dD r.p nm from rfl,hs4.d] at hsy;clear hr2 hcu;go_step;go_wp2_with fail;refine hsy.mono ?_;clear hsy;rintro e w5 ⟨rfl,r3,hr3,hs5⟩;have h5:=hs5.at';by_cases hsy:(dD r.p nm).2=0
    .have HS:=Hd (show dH r.p nm=0 by rw [HES.out.1];exact hsy);rw [hsy];have hd5:r3.d=r.d:=hs5.d.trans hs4.d;have hp5:aO w5 wa.heap.size 22 5 a2 n2 c2 vs (cW r.p nm).1:=by
      refine hp4.keep (fun x hx=>hs5.turn.block x.block (hp4.1.block_lt hx).2.1 fun hf=> ?_) (fun ad m C hm=>hs5.turn.block ad.block (hp4.inner hm).2.1 fun hf=> ?_)
      .rcases hf4 _ hf with g|g
       .have:=(hp4.1.block_lt hx).1;omega
       .have:=(hp3.1.block_lt hx).2.1;omega
      .rcases hf4 _ hf with g|g
       .have:=(hp4.inner hm).1;omega
       .have:=(hp3.inner hm).2.1;omega
     have hz5:wa.heap.size<=w5.heap.size:=At hb3.size (At hz4 hs5.turn.size);have HNL:=Hd (Ir h5 hz5 hzc hs hp5 (by have:=hp3.length;omega) (ud iU _) (fun x hx hf=>by
      have g0:wa.heap.size<=x/\x<w3.heap.size:=by
       rcases hx with ⟨ad,q1,rfl⟩|⟨ad,m,C,q1,rfl⟩
       .exact ⟨(hp3.1.block_lt q1).1,(hp3.1.block_lt q1).2.1⟩
       .exact ⟨(hp3.inner q1).1,(hp3.inner q1).2.1⟩
      rcases hs5.foot' x hf with g|g
      .rcases hf4 x g with g|g<;>omega
      .omega))
     rw [hd5] at HNL;have HSS:=Hd (hs4.trans hs5);have HLE:=Hd (And.intro (hp3.length) (fun x (hx:dJ ⟨w5.heap.size,nm,a2,c2,vs,(cW r.p nm).1,(cW r.p nm).1.length⟩ x)=>show w.heap.size<=x by
      rcases hx with rfl|⟨ad,q1,rfl⟩|⟨ad,m,C,q1,rfl⟩
      .exact At hb1.size (At hz2 hz5)
      .exact At hb1.size (At hz2 (hp3.1.block_lt q1).1)
      .exact At hb1.size (At hz2 (hp3.inner q1).1)))
     have HR3:=Hd hr3;clear hsy hp5 hp4 hp3 hs4 hs5 h5 h4 h3 h2 hs3 hr3 hf4 hf3 hd5 hf1;go_wp2_with fail;go_ret3;have eN:ii r.p nm=bad:=(by unfold ii;rw [if_pos HS.out];exact HBD.out.symm);refine ⟨r3,HR3.out.trans HES.out.2.symm,HSS.out.trans ⟨aJ.of_below ((AT _ _).alloc (Lt _) _),HNL.out.disk,fun _ hx=> .inl hx,rfl⟩,.inr ⟨HS.out,⟨w5.heap.size,nm,a2,c2,vs,(cW r.p nm).1,(cW r.p nm).1.length⟩,?_,HNL.out,rfl,rfl,rfl,HLE.out.2⟩⟩;rw [eN]
     first|rfl|simp
    .have t3:((dD r.p nm).2 !=0)=true:=(by simpa using hsy);have HSY:=Hd hsy;clear hsy;go_wp2_with fail;go_ret3;refine ⟨r3,hr3.trans HES.out.2.symm,hs4.trans hs5,.inl ⟨by rw [HES.out.1];exact HSY.out,?_⟩⟩;rw [HES.out.1]
     first|rfl|simp
  .have HE:=Hd (sN hmk);have t1:((bS r.p nm).2 !=0)=true:=(by simpa using hmk);have HMK:=Hd hmk;clear hmk;go_step;go_wp2_with fail;go_ret3;refine ⟨r1,HR1.out.trans HE.out.2.symm,hs2,.inl ⟨by rw [HE.out.1];exact HMK.out,?_⟩⟩;rw [HE.out.1]
   first|rfl|simp
end
end Go.Proofs.YtioigihakjlopaaGreat
