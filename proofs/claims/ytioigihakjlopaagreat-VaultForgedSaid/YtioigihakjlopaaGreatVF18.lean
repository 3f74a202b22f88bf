import Derived.Test.YtioigihakjlopaaGreatVF17
namespace Go.Proofs.YtioigihakjlopaaGreat
open Go.Proofs.Tryz
set_option linter.unusedVariables false
set_option linter.unusedSimpArgs false
set_option maxHeartbeats 16000000
set_option maxRecDepth 100000
section
open Go.RowKit
structure RmJ (w:World) (H:Nat) (k li lo:List UInt8) (ia:Option Addr) (ic:Nat) (oa:Option Addr) (oc:Nat) (wr:World):Prop where
 res:Blk wr H (vA 32 fun _=> .int .u8 0) 170
 blk:Blk wr (H+1) (vA 64 fun j=>bv (bkey k j)) 257
 inn:Mid wr H 5 ia li.length ic (li.map bv)
 out:Mid wr H 5 oa lo.length oc (lo.map bv)
 d:∀r,bE ia ic=some r->bE oa oc≠some r
 below:Below H w wr
section
variable {w:World} {H:Nat} {k li lo:List UInt8} {ia oa:Option Addr} {ic oc:Nat} {wr wq:World}
theorem RmJ.le (h:RmJ w H k li lo ia ic oa oc wr):H<wr.heap.size:=h.res.lt
theorem RmJ.old (h:RmJ w H k li lo ia ic oa oc wr) (hb:Below wr.heap.size wr wq):RmJ w H k li lo ia ic oa oc wq:=
 ⟨h.res.old hb,h.blk.old hb,h.inn.old hb,h.out.old hb,h.d,h.below.trans (hb.mono (Wt h.le))⟩
theorem RmJ.app1 (h:RmJ w H k li lo ia ic oa oc wr) {p:List UInt8} {m:Nat} (hp:p.length=m) {a':Option Addr} {c':Nat} (hm:Mid wq H 5 a' (li.length+m) c' (li.map bv++p.map bv)) (hgr:wr.grownBy wq (bE ia ic))
  (hr:bE a' c'=bE ia ic\/∃b,bE a' c'=some b/\wr.heap.size<=b):RmJ w H k (li++p) lo a' c' oa oc wq:=by
 have hne:∀{b:Nat} {cs:Array Value} {t:TypeId},Blk wr b cs t->t≠5->bE ia ic≠some b:=fun hB ht e=>by
  obtain ⟨_,_,cur,hcur⟩:=h.inn.lt e;exact Blk.ne hcur hB (Vf ht) rfl
 refine ⟨h.res.grown hgr (hne h.res dcA),h.blk.grown hgr (hne h.blk dcA),by rw [laA,VG,hp];exact hm,h.out.keep fun r hr'=>hgr.block r (h.out.lt hr').2.1 fun e=>h.d r e.symm hr',fun r hr' e=> ?_,h.below.grown hgr (Wt h.le) fun b hb=>(h.inn.lt hb).1⟩;rcases hr with h1|⟨b,h1,h2⟩
 .rw [h1] at hr';exact h.d r hr' e
 .rw [h1] at hr';cases hr';have:=(h.out.lt e).2.1;omega
theorem RmJ.app2 (h:RmJ w H k li lo ia ic oa oc wr) {p:List UInt8} {m:Nat} (hp:p.length=m) {a':Option Addr} {c':Nat} (hm:Mid wq H 5 a' (lo.length+m) c' (lo.map bv++p.map bv)) (hgr:wr.grownBy wq (bE oa oc))
  (hr:bE a' c'=bE oa oc\/∃b,bE a' c'=some b/\wr.heap.size<=b):RmJ w H k li (lo++p) ia ic a' c' wq:=by
 have hne:∀{b:Nat} {cs:Array Value} {t:TypeId},Blk wr b cs t->t≠5->bE oa oc≠some b:=fun hB ht e=>by
  obtain ⟨_,_,cur,hcur⟩:=h.out.lt e;exact Blk.ne hcur hB (Vf ht) rfl
 refine ⟨h.res.grown hgr (hne h.res dcA),h.blk.grown hgr (hne h.blk dcA),h.inn.keep fun r hr'=>hgr.block r (h.inn.lt hr').2.1 fun e=>h.d r hr' e.symm,by rw [laA,VG,hp];exact hm,fun r hr' e=> ?_,h.below.grown hgr (Wt h.le) fun b hb=>(h.out.lt hb).1⟩;rcases hr with h1|⟨b,h1,h2⟩
 .rw [h1] at e;exact h.d r hr' e
 .rw [h1] at e;cases e;have:=(h.inn.lt hr').2.1;omega
end
theorem uw (f:Nat->UInt8) (x:UInt8) (t:Nat) (h:t<64):(sK f x).take (t+1)=(sK f x).take t++ [f t^^^x]:=by
 rw [VW (by rw [cK];exact h)];simp [sK]
theorem fd (f:Nat->UInt8) (x:UInt8) (t:Nat) (h:t<=64):((sK f x).take t).length=t:=by rw [ltA,cK];omega
theorem ah.cellAt {w:World} {a:Option Addr} {l:List UInt8} (h:ah w a l) (i:Nat) (hi:i<l.length):∃b o,a=some ⟨b,o,none⟩/\w.cell? ⟨b,o+i,none⟩=some (.int .u8 (U8 (l.getD i 0))):=by
 obtain ⟨b,o,e,hc⟩:=h.at oA;exact ⟨b,o,e,by rw [hc i hi];simp [hi]⟩
def Rm1 (w:World) (H G:Nat) (k:List UInt8) (f:Nat) (i:Value) (wr:World):Prop:=
 ∃t:Nat,f+t=32/\i= .int .i64 (t:Int)/\Blk wr H (vA 32 fun _=> .int .u8 0) 170/\Blk wr (H+1) (vA 64 fun j=>if j<t then bv (dgb k j) else .int .u8 0) 257/\Blk wr G (dgA k) 170/\Below H w wr
def Rm2 (w:World) (H:Nat) (k:List UInt8) (kn:Nat) (f:Nat) (i:Value) (wr:World):Prop:=
 ∃t:Nat,f+t=kn/\i= .int .i64 (t:Int)/\Blk wr H (vA 32 fun _=> .int .u8 0) 170/\Blk wr (H+1) (vA 64 fun j=>if j<t then bv (k.getD j 0) else .int .u8 0) 257/\Below H w wr
def Rm3 (w:World) (H:Nat) (k:List UInt8) (f:Nat) (x y i:Value) (wr:World):Prop:=
 ∃(t:Nat) (ia:Option Addr) (ic:Nat) (oa:Option Addr) (oc:Nat),f+t=64/\i= .int .i64 (t:Int)/\x= .slice ia t ic/\y= .slice oa t oc/\RmJ w H k ((sK (bkey k) 54).take t) ((sK (bkey k) 92).take t) ia ic oa oc wr
def Mn (w:World) (k b:List UInt8) (e:Ending) (w':World):Prop:=e= .returned (.agg (mcA k b))/\Below w.heap.size w w'
attribute [local go_sem] lN yf
theorem xN (k b:List UInt8) (ka:Option Addr) (kn kc:Nat) (ba:Option Addr) (bn bc:Nat) (w:World) (hk:ah w ka k) (hkl:k.length=kn) (hkm:kn<140737488352000) (hb:ah w ba b) (hbl:b.length=bn) (hbm:bn<140737488352000):
  Calls prog 180 #[.slice ka kn kc,.slice ba bn bc] w (Mn w k b):=by
 have HK:=Hd hkl;have HB:=Hd hbl;obtain ⟨H,hH⟩:=Le w.heap.size;have HH:=Hd hH;have hb0:=Hd hb;have hk0:=Hd hk;clear hkl hbl hb;have hR0:=(Blk.new w (vA 32 fun _=> .int .u8 0) 170).alloc (.cells (vA 64 fun _=> .int .u8 0) 257);have hO0:=Blk.new (w.alloc (.cells (vA 32 fun _=> .int .u8 0) 170)) (vA 64 fun _=> .int .u8 0) 257;simp only [Wg] at hO0;rw [<-hH] at hR0 hO0;clear hH;have hz1:=iQ AA;go_enter func180,ntmps180;go_upto_region 2 with fail;clear hz1;rw [<-HH.out];refine af (fun W0=>Blk W0 H (vA 32 fun _=> .int .u8 0) 170/\Blk W0 (H+1) (vA 64 fun _=> .int .u8 0) 257/\ah W0 ka k/\Below H w W0) ⟨hR0,hO0,(hk.alloc _).alloc _,((HH.out▸AT _ _:Below H w w).alloc (by rw [HH.out];omega) _).alloc (by rw [HH.out];simp) _⟩ ?_;clear hR0 hO0 hk;rintro w1 ⟨hR,hO,hk,hw⟩;have hsz:H+1<w1.heap.size:=hO.lt;go_upto_if 15 with fail;go_cut [5] (fun v5 wx=>v5= .pointer (some ⟨H+1,0,none⟩)/\RmJ w H k [] [] none 0 none 0 wx)
 case first=>
  by_cases hbig:64<kn
  .have tI:decide ((64:Int)<(kn:Int))=true:=soA;have tt:decide (64<kn)=true:=(by simpa using hbig);go_wp2_with fail;refine (sy k ka kc kn _ hk HK.out oA).mono ?_;rintro e w2 ⟨rfl,hb2⟩;have hR2:=hR.old hb2;have hO2:=hO.old hb2;have hw2:=hw.trans (hb2.mono oA);have hs2:=hb2.size;clear hR hO hk hw hb2;go_upto_region 4 with (refine aa rfl 170 fG (.tmp 6) _ (cells:=dgA k) rfl rfl rfl (Blk.new _ _ _) (ax _ _) rfl (du fun _ _=>rfl) ?_);obtain ⟨G,hG⟩:=Le w2.heap.size;have hG0:=Blk.new w2 (vA 32 fun _=> .int .u8 0) 170;have hHG:H+1<G:=oA;rw [<-hG] at hG0⊢;refine af (fun W0=>Rm1 w H G k 32 (.int .i64 0) W0) ⟨0,oA,rfl,(hR2.alloc _).setRow_other _ _ oA,((hO2.alloc _).setRow_other _ _ oA).ofV fun j _=>by rw [if_neg oA],hG0.setRow _,ag (hw2.alloc oA _) oA _⟩ ?_;clear hR2 hO2 hw2 hs2 hG0 hG tI tt;intro w3 hst;go_wp2_with fail;go_loopg [7] 32 (Rm1 w H G k)
   case atStart=>exact hst
   case round=>
    clear hst;obtain ⟨t,hf,rfl,hR,hO,hG,hw⟩:=hrel;have HF:=Hd hf;clear hf;by_cases ht:t<32
    .have tt:decide ((t:Int)<32)=true:=soA;have htI:(t:Int)<32:=oA;have htJ:(t:Int)<64:=oA;have c0:wr.cell? ⟨G,t,none⟩=some (.int .u8 (U8 (dgb k t))):=hG.atV ht rfl;have c1:=hO.atV (show t<64 by omega) rfl;have f1:=hO.free;go_wp2_with fail;clear c0 c1 f1;go_roundg (gk-1)
     case rel=>
      have hf:=HF.out;refine ⟨t+1,oA,gnA,hR.other _ _ (by show H≠H+1;omega),(hO.setV (show t<64 by omega) _).ofV fun j _=> ?_,hG.other _ _ (by show G≠H+1;omega),hw.setCell (by show H<=H+1;omega) _⟩;by_cases e:j=t
      .subst e;rw [if_pos rfl,if_pos oA];rfl
      .rw [if_neg e];by_cases e2:j<t
       .rw [if_pos e2,if_pos oA]
       .rw [if_neg e2,if_neg oA]
     case measure=>have hf:=HF.out;omega
    .obtain rfl:t=32:=(by have:=HF.out;omega);have tt:decide (((32:Nat):Int)<32)=false:=skA;go_wp2_with fail;go_meet;refine ⟨rfl,hR,hO.ofV fun j hj=> ?_,Mid.nil' _ _ _,Mid.nil' _ _ _,fun r hr=>by simp [bE] at hr,hw⟩;have e:bkey k j=if j<32 then dgb k j else 0:=(by rw [bkey,if_pos (show 64<k.length by rw [HK.out];exact hbig)]);rw [e];by_cases e2:j<32
     .rw [if_pos e2,if_pos e2]
     .rw [if_neg e2,if_neg e2];rfl
  .have tI:decide ((64:Int)<(kn:Int))=false:=soA;have tt:decide (64<kn)=false:=(by simpa using hbig);have hst:Rm2 w H k kn kn (.int .i64 0) w1:=⟨0,oA,rfl,hR,hO.ofV fun j _=>by rw [if_neg oA],hw⟩;clear hR hO hw hk;go_wp2_with fail;go_loopg [8] kn (Rm2 w H k kn)
   case atStart=>exact hst
   case round=>
    clear hst;obtain ⟨t,hf,rfl,hR,hO,hw⟩:=hrel;have HF:=Hd hf;clear hf;have hkr:ah wr ka k:=hk0.out.below (HH.out▸hw);by_cases ht:t<kn
    .have tt:decide ((t:Int)<(kn:Int))=true:=soA;have tN:decide (t<kn)=true:=(by simpa using ht);have htJ:(t:Int)<64:=oA;obtain ⟨b1,o1,rfl,c0⟩:=ah.cellAt hkr t (by rw [HK.out];exact ht);have c1:=hO.atV (show t<64 by omega) rfl;have f1:=hO.free;go_wp2_with fail;clear c0 c1 f1;go_roundg (gk-1)
     case rel=>
      have hf:=HF.out;refine ⟨t+1,oA,gnA,hR.other _ _ (by show H≠H+1;omega),(hO.setV (show t<64 by omega) _).ofV fun j _=> ?_,hw.setCell (by show H<=H+1;omega) _⟩;by_cases e:j=t
      .subst e;rw [if_pos rfl,if_pos oA];rfl
      .rw [if_neg e];by_cases e2:j<t
       .rw [if_pos e2,if_pos oA]
       .rw [if_neg e2,if_neg oA]
     case measure=>have hf:=HF.out;omega
    .obtain rfl:t=kn:=(by have:=HF.out;omega);have tt:decide ((t:Int)<(t:Int))=false:=skA;have tN:decide (t<t)=false:=skA;go_wp2_with fail;go_meet;refine ⟨rfl,hR,hO.ofV fun j hj=> ?_,Mid.nil' _ _ _,Mid.nil' _ _ _,fun r hr=>by simp [bE] at hr,hw⟩;rw [bkey,if_neg (show ¬64<k.length by rw [HK.out];exact hbig)];by_cases e2:j<t
     .rw [if_pos e2]
     .rw [if_neg e2,VX,WL (by rw [HK.out];omega)];rfl
 case rest=>
  obtain ⟨rfl,hJ⟩:=hcut;clear hR hO hk hw hsz;go_wp2_with fail;have hst:Rm3 w H k 64 (.slice none 0 0) (.slice none 0 0) (.int .i64 0) wc:=⟨0,none,0,none,0,oA,rfl,rfl,rfl,by simpa using hJ⟩;clear hJ;go_loopg [9,10,11] 64 (Rm3 w H k)
  case atStart=>exact hst
  case round=>
   clear hst;obtain ⟨t,ia,ic,oa,oc,hf,rfl,rfl,rfl,hJ⟩:=hrel;have HF:=Hd hf;clear hf;have hle:=hJ.le;by_cases ht:t<64
   .have tt:decide ((t:Int)<64)=true:=soA;have htI:(t:Int)<64:=oA;have HP1:=Hd (uw (bkey k) 54 t ht);have HP2:=Hd (uw (bkey k) 92 t ht);have c0:wr.cell? ⟨H+1,t,none⟩=some (.int .u8 (U8 (bkey k t))):=hJ.blk.atV ht rfl;have hJa:=hJ.old ((AT wr.heap.size wr).alloc (Lt _) (.cells #[Value.int .u8 (U8 (bkey k t^^^54))] 5));have hI:=hJa.inn;rw [fd _ _ _ oA] at hI;go_wp2_with (at_builtin;refine df rfl (.tmp 43) (.tmp 48) 22 rfl dK rfl hI rfl (aw.new' _ _ _ _ skA) rfA (by exact dg _ rfl) mxA oA soA ?_);intro a5 c5 w5 hm5 hg5 hr5;have hJ5:=hJa.app1 (p:=[bkey k t^^^54]) (m:=1) (wq:=w5) (a':=a5) (c':=c5) rfl (by rw [fd _ _ _ oA,WE];exact hm5) hg5 (by simpa using hr5);clear hm5 hg5 hr5 hJa hJ hI c0 hle;have hle:=hJ5.le;have c0:w5.cell? ⟨H+1,t,none⟩=some (.int .u8 (U8 (bkey k t))):=hJ5.blk.atV ht rfl;have hJa:=hJ5.old ((AT w5.heap.size w5).alloc (Lt _) (.cells #[Value.int .u8 (U8 (bkey k t^^^92))] 5));have hI:=hJa.out;rw [fd _ _ _ oA] at hI;go_wp2_with (at_builtin;refine df rfl (.tmp 50) (.tmp 55) 22 rfl dK rfl hI rfl (aw.new' _ _ _ _ skA) rfA (by exact dg _ rfl) mxA oA soA ?_);intro a6 c6 w6 hm6 hg6 hr6;have hJ6:=hJa.app2 (p:=[bkey k t^^^92]) (m:=1) (wq:=w6) (a':=a6) (c':=c6) rfl (by rw [fd _ _ _ oA,WE];exact hm6) hg6 (by simpa using hr6);clear hm6 hg6 hr6 hJa hJ5 hI c0 hle;go_wp2_with fail;go_roundg (gk-1)
    case rel=>
     have hf:=HF.out;exact ⟨t+1,a5,c5,a6,c6,oA,gnA,rfl,rfl,by rw [HP1.out,HP2.out];exact hJ6⟩
    case measure=>have hf:=HF.out;omega
   .obtain rfl:t=64:=(by have:=HF.out;omega);have tt:decide (((64:Nat):Int)<64)=false:=skA;have hI:=hJ.inn;rw [fd _ _ _ oA] at hI;have hbr:=hb0.out.below (HH.out▸hJ.below);go_wp2_with (at_builtin;refine df rfl (.tmp 57) (.tmp 58) 22 rfl dK rfl hI rfl hbr (by rw [lmA,HB.out]) (cO _) mxA oA oA ?_);intro a5 c5 w5 hm5 hg5 hr5;have hJ5:=hJ.app1 (p:=b) HB.out (by rw [fd _ _ _ oA];exact hm5) hg5 hr5;rw [Vj (by rw [cK];omega),Vj (by rw [cK];omega)] at hJ5;change RmJ w H k (hin k b) _ a5 c5 oa oc w5 at hJ5;have hlen:(hin k b).length=64+bn:=(by rw [hin,laA,cK,HB.out]);have HLEN:=Hd hlen;clear hm5 hg5 hr5 hJ hI hbr hlen;have hr5:=hJ5.inn.read;go_wp2_with fail;refine (sy (hin k b) a5 c5 (64+bn) _ hr5 HLEN.out oA).mono ?_;rintro e w6 ⟨rfl,hb6⟩;have hJ6:=hJ5.old hb6;clear hJ5 hb6 hr5;have hle:=hJ6.le;go_upto_region 20 with (refine aa rfl 170 fG (.tmp 12) _ (cells:=dgA (hin k b)) rfl rfl rfl (Blk.new _ _ _) (ax _ _) rfl (du fun _ _=>rfl) ?_);obtain ⟨G,hG⟩:=Le w6.heap.size;have hG0:=Blk.new w6 (vA 32 fun _=> .int .u8 0) 170;have hbb:=ag ((AT w6.heap.size w6).alloc (Lt _) (.cells (vA 32 fun _=> .int .u8 0) 170)) (VR hG.symm) (dgA (hin k b));rw [<-hG] at hG0⊢;refine af (fun W0=>RmJ w H k (hin k b) (sK (bkey k) 92) a5 c5 oa oc W0/\Blk W0 G (dgA (hin k b)) 170) ⟨hJ6.old hbb,hG0.setRow _⟩ ?_;clear hJ6 hG0 hG hbb hle;rintro w7 ⟨hJ,hG⟩;have q2:=rR G;have hI:=hJ.out;rw [cK] at hI;have hle:=hJ.le;go_wp2_with (at_builtin;refine df rfl (.tmp 62) (.tmp 63) 22 rfl dK rfl hI rfl (rE hG) (by rw [lmA,cU]) (cO _) mxA oA oA ?_);intro a8 c8 w8 hm8 hg8 hr8;have hJ8:=hJ.app2 (p:=dgl (hin k b)) (cU _) (by rw [cK];exact hm8) hg8 hr8;change RmJ w H k (hin k b) (uR k b) a5 c5 a8 c8 w8 at hJ8;have hlen:(uR k b).length=64+32:=(by rw [uR,laA,cK,cU]);have HLEN2:=Hd hlen;clear hm8 hg8 hr8 hJ hG hI hlen hle q2;have hr8:=hJ8.out.read;go_wp2_with fail;refine (sy (uR k b) a8 c8 (64+32) _ hr8 HLEN2.out oA).mono ?_;rintro e w9 ⟨rfl,hb9⟩;have hJ9:=hJ8.old hb9;clear hJ8 hb9 hr8;go_wp2_with (refine aa rfl 170 fG (.tmp 4) _ (cells:=dgA (uR k b)) rfl rfl rfl hJ9.res (ax _ _) (ax _ _) (du fun _ _=>rfl) ?_)
    exact cv rfl fG rfl (hJ9.res.setRow _) (ax _ _) rfl ⟨rfl,HH.out▸ag hJ9.below (Lt _) _⟩
end
section
open Go.RowKit
def Eg1 (w:World) (H n:Nat) (f:Nat) (i:Value) (wr:World):Prop:=
 ∃t:Nat,f+t=8/\i= .int .i64 (t:Int)/\Blk wr H (vA 8 fun j=>if j<t then bv (iL n j) else .int .u8 0) 260/\Below H w wr
theorem Ke:(Tryz.prog.info? 260).bind (·.zero)=some (.agg (vA 8 fun _=> .int .u8 0)):=by kernel_rfl
theorem Dk (n t j:Nat) (x:Int) (h:x=U8 (iL n t)):(if j=t then Value.int .u8 x else if j<t then bv (iL n j) else .int .u8 0)=if j<t+1 then bv (iL n j) else .int .u8 0:=by
 subst h;by_cases e:j=t
 .subst e;rw [if_pos rfl,if_pos oA];rfl
 .rw [if_neg e];by_cases e2:j<t
  .rw [if_pos e2,if_pos oA]
  .rw [if_neg e2,if_neg oA]
theorem uZ (n:Nat) (hn:n<18446744073709551616) (w:World):Calls prog 166 #[.int .u64 (n:Int)] w fun e w'=>∃g,e= .returned (.slice (some ⟨g,0,none⟩) 8 8)/\w.heap.size<=g/\ah w' (some ⟨g,0,none⟩) (eJ n)/\Below w.heap.size w w':=by
 have hnI:(n:Int)<=18446744073709551615:=oA;have hn0:(0:Int)<=(n:Int):=oA;obtain ⟨H,hH⟩:=Le w.heap.size;rw [<-hH];have hB0:=Blk.new w (vA 8 fun _=> .int .u8 0) 260;have hz1:=iQ Ke;go_enter func166,ntmps166;go_upto_region 2 with fail;clear hz1;rw [<-hH] at hB0⊢;refine af (fun W0=>Eg1 w H n 8 (.int .i64 0) W0) ⟨0,oA,rfl,hB0.ofV fun j _=>by rw [if_neg oA],by rw [hH];exact cL⟩ ?_;have HH:=Hd hH;clear hB0 hH;intro w1 hst;go_wp2_with fail;go_loopg [4,5] 8 (fun g _ i wr=>Eg1 w H n g i wr)
 case atStart=>exact hst
 case round=>
  clear hst;obtain ⟨t,hf,rfl,hB,hb⟩:=hrel;have HF:=Hd hf;clear hf;by_cases ht:t<8
  .have HE:=Hd fun p=>tD n t p;have f0:=hB.free;have h8:t=0\/t=1\/t=2\/t=3\/t=4\/t=5\/t=6\/t=7:=oA;rcases h8 with rfl|rfl|rfl|rfl|rfl|rfl|rfl|rfl
   all_goals
    have c0:=hB.atV oA rfl
    go_wp2_with fail
    clear c0 f0
    go_roundg (gk-1)
    case rel=>
     have hf:=HF.out
     refine ⟨_,oA,gnA,(hB.setV oA _).ofV fun j _=>Dk n _ j _ ?_,hb.setCell (by show H<=H;omega) _⟩
     first
      |exact HE.out _ rfl
      |(have E:=HE.out 72057594037927936 rfl;rw [<-E];omega)
      |(have E:=HE.out 1 rfl;rw [<-E];omega)
    case measure=>have hf:=HF.out;omega
  .obtain rfl:t=8:=(by have:=HF.out;omega);have hsl:=LY H;go_wp2_with fail;go_ret;refine ⟨H,rfl,Lt _,?_,hb⟩;have hTT:=hB.ofV (g:=fun j=>bv (iL n j)) fun j hj=>if_pos hj;refine aw.mk fun j hj=> ?_;rw [lmA,aL] at hj;rw [VS,hTT.atV hj rfl];simp [eJ]
def Re1 (w:World) (x y:List UInt8) (f:Nat) (i:Value) (wr:World):Prop:=
 ∃t nq:Nat,f+t=x.length/\i= .int .i64 (t:Int)/\x.take t=y.take t/\w.drewN nq=wr
def EqP (w:World) (x y:List UInt8) (e:Ending) (w':World):Prop:=e= .returned (.bool (decide (x=y)))/\Below w.heap.size w w'
theorem zr (x y:List UInt8) (xa ya:Option Addr) (xn xc yn yc:Nat) (w:World) (hx:ah w xa x) (hxl:x.length=xn) (hxm:xn<=140737488351232) (hy:ah w ya y) (hyl:y.length=yn) (hym:yn<=140737488351232):
  Calls prog 178 #[.slice xa xn xc,.slice ya yn yc] w (EqP w x y):=by
 have HX:=Hd hxl;have HY:=Hd hyl;clear hxl hyl;by_cases hne:xn=yn
 .subst hne;go_enter func178,ntmps178;go_wp2_with fail;go_loopg [5] xn (Re1 w x y)
  case atStart=>exact ⟨0,0,by have:=HX.out;omega,rfl,skA,rfl⟩
  case round=>
   obtain ⟨t,nq,hf,rfl,htk,rfl⟩:=hrel;have HF:=Hd hf;have HT:=Hd htk;clear hf htk;by_cases ht:t<xn
   .have tt:decide ((t:Int)<(xn:Int))=true:=soA;have tN:decide (t<xn)=true:=(by simpa using ht);have htI:(t:Int)<(xn:Int):=oA;obtain ⟨b1,o1,rfl,c1⟩:=ah.cellAt hx t (by rw [HX.out];exact ht);obtain ⟨b2,o2,rfl,c2⟩:=ah.cellAt hy t (by rw [HY.out];exact ht);have hx1:x.take (t+1)=x.take t++ [x.getD t 0]:=by
     rw [VW (by rw [HX.out];exact ht)];simp [HX.out,ht]
    have hy1:y.take (t+1)=y.take t++ [y.getD t 0]:=by
     rw [VW (by rw [HY.out];exact ht)];simp [HY.out,ht]
    have HX1:=Hd hx1;have HY1:=Hd hy1;obtain ⟨p,hp⟩:=Le (x.getD t 0);obtain ⟨q,hq⟩:=Le (y.getD t 0);rw [<-hp] at c1;rw [<-hq] at c2;have HP:=Hd hp;have HQ:=Hd hq;clear hx1 hy1 hp hq;by_cases hpq:p=q
    .have hb:(U8 p==U8 q)=true:=(by rw [Dp];simpa using hpq);have hb2:(U8 p !=U8 q)=false:=(by rw [bne,hb];rfl);go_upto_region 6 with fail;go_quiet (fail);go_wp2_with fail;go_roundg (gk-1)
     case rel=>exact ⟨t+1,_,by have:=HF.out;have:=HX.out;omega,gnA,by rw [HX1.out,HY1.out,HT.out,<-HP.out,<-HQ.out,hpq],rfl⟩
     case measure=>have:=HF.out;have:=HX.out;omega
    .have hb:(U8 p==U8 q)=false:=(by rw [Dp];simpa using hpq);have hb2:(U8 p !=U8 q)=true:=(by rw [bne,hb];rfl);go_upto_region 6 with fail;go_quiet (fail);go_wp2_with fail;go_ret;have hxy:x≠y:=fun e=>hpq (by rw [HP.out,HQ.out,e]);exact ⟨by rw [Vd hxy];rfl,bW (bW (AT _ _) _) _⟩
   .obtain rfl:t=xn:=(by have:=HF.out;have:=HX.out;omega);have tt:decide ((t:Int)<(t:Int))=false:=skA;have tN:decide (t<t)=false:=skA;go_wp2_with fail;go_ret;have hxy:x=y:=by
     have:=HT.out;rwa [Vj (by rw [HX.out];omega),Vj (by rw [HY.out];omega)] at this
    exact ⟨by rw [VO hxy];rfl,bW (AT _ _) _⟩
 .have hb:((xn:Int)==(yn:Int))=false:=soA;have hb2:((xn:Int) !=(yn:Int))=true:=soA;have hb3:(xn==yn)=false:=(by simpa using hne);have hb4:(xn !=yn)=true:=(by simpa using hne);have hxy:x≠y:=fun e=>hne (by rw [<-HX.out,<-HY.out,e]);have HXY:=Hd hxy;clear hxy;go_enter func178,ntmps178;go_wp2_with fail;go_ret;exact ⟨by rw [Vd HXY.out];rfl,AT _ _⟩
theorem aw.keepB {w w':World} {g o:Nat} {vs:List Value} (h:aw w (some ⟨g,o,none⟩) vs) (hk:w'.heap[g]? =w.heap[g]?):aw w' (some ⟨g,o,none⟩) vs:=by
 intro i hi;obtain ⟨b,o',e,hc⟩:=h i hi;cases e;refine ⟨g,o,rfl,?_⟩;unfold World.cell? at hc⊢;simp only at hc⊢;rw [hk];exact hc
def qD (name:List UInt8) (nl n:Nat):List UInt8:=eJ nl++name++eJ n
structure MkI (w:World) (H M:Nat) (k fed:List UInt8) (hi ho:Nat) (ha:Option Addr) (hn hc:Nat) (a2:Option Addr) (n2 c2:Nat) (P g1 g2 g3 cN nn Z Y:Nat) (name:List UInt8) (n:Nat) (wr:World):Prop where
 res:Blk wr H (vA 32 fun _=> .int .u8 0) 170
 mac:qy wr (H+1) M k fed hi ho ha hn hc a2 n2 c2
 row:∀r,bE ha hc=some r->r<Z\/Y<=r
 hi:hi<Z
 pcs:Blk wr P #[.slice (some ⟨g1,0,none⟩) 8 8,.slice (some ⟨g2,0,none⟩) nn cN,.slice (some ⟨g3,0,none⟩) 8 8] 22
 b1:ah wr (some ⟨g1,0,none⟩) (eJ nn)
 b2:ah wr (some ⟨g2,0,none⟩) name
 b3:ah wr (some ⟨g3,0,none⟩) (eJ n)
 o1:Z<=g1/\g1<Y
 o2:Z<=g2/\g2<Y
 o3:Z<=g3/\g3<Y
 oP:Z<=P/\P<Y
 le:Y<=wr.heap.size
 below:Below H w wr
section
variable {w:World} {H M:Nat} {k fed:List UInt8} {hi ho:Nat} {ha:Option Addr} {hn hc:Nat} {a2:Option Addr} {n2 c2:Nat} {P g1 g2 g3 cN nn Z Y:Nat} {name:List UInt8} {n:Nat} {wr wq:World}
theorem MkI.write (h:MkI w H M k fed hi ho ha hn hc a2 n2 c2 P g1 g2 g3 cN nn Z Y name n wr) {p:List UInt8} {a':Option Addr} {n' c':Nat} (hm:qy wq (H+1) M k (fed++p) hi ho a' n' c' a2 n2 c2) (hfr:oO wr wq hi (bE ha hc))
  (hr:bE a' c'=none\/bE a' c'=bE ha hc\/∃b,bE a' c'=some b/\wr.heap.size<=b):MkI w H M k (fed++p) hi ho a' n' c' a2 n2 c2 P g1 g2 g3 cN nn Z Y name n wq:=by
 have hle:=h.le;have hhi:=h.hi;have keep:∀g,Z<=g->g<Y->wq.heap[g]? =wr.heap[g]? :=fun g h1 h2=>hfr.block g oA oA fun e=>by
  have:=h.row g e;omega
 refine ⟨hfr.blk h.res (by have:=h.mac.leI;omega) fun e=>by have:=(h.mac.inn.row.lt e).1;omega,hm,fun r hr'=> ?_,hhi,?_,h.b1.keepB (keep _ h.o1.1 h.o1.2),h.b2.keepB (keep _ h.o2.1 h.o2.2),h.b3.keepB (keep _ h.o3.1 h.o3.2),h.o1,h.o2,h.o3,h.oP,At hle hfr.size,h.below.trans (hfr.below (by have:=h.mac.leI;omega) (fun b hb=>by have:=(h.mac.inn.row.lt hb).1;omega) (by have:=h.res.lt;omega))⟩
 .rcases hr with h1|h1|⟨b,h1,h2⟩
  .rw [h1] at hr';cases hr'
  .rw [h1] at hr';exact h.row r hr'
  .rw [h1] at hr';cases hr';omega
 .have e:=h.pcs;unfold Blk at e⊢;rw [keep _ h.oP.1 h.oP.2];exact e
end
def Ex (nn:Nat) (name:List UInt8) (n t:Nat):List UInt8:=if t=0 then eJ nn else if t=1 then name else eJ n
def Gr (nn:Nat) (name:List UInt8) (n t:Nat):List UInt8:=((List.range t).map (Ex nn name n)).flatten
theorem CF (nn:Nat) (name:List UInt8) (n t:Nat):Gr nn name n (t+1)=Gr nn name n t++Ex nn name n t:=by simp [Gr,List.range_succ]
theorem Fk (nn:Nat) (name:List UInt8) (n:Nat):Gr nn name n 3=qD name nn n:=by
 simp [Gr,qD,Ex,List.range_succ]
def Mk3 (w:World) (H M:Nat) (k:List UInt8) (hi ho:Nat) (a2:Option Addr) (n2 c2:Nat) (P g1 g2 g3 cN nn Z Y:Nat) (name:List UInt8) (n:Nat) (f:Nat) (i:Value) (wr:World):Prop:=
 ∃(t:Nat) (ha:Option Addr) (hn hc:Nat),f+t=3/\i= .int .i64 (t:Int)/\MkI w H M k (Gr nn name n t) hi ho ha hn hc a2 n2 c2 P g1 g2 g3 cN nn Z Y name n wr
def vp (w:World) (k b:List UInt8) (e:Ending) (w':World):Prop:=e= .returned (.agg (mcA k b))/\Below w.heap.size w w'
theorem EH (k:List UInt8) (ka:Option Addr) (kn kc:Nat) (s:ByteArray) (n:Nat) (w:World) (hk:ah w ka k) (hkl:k.length=kn) (hkm:kn<140737488352000) (hsm:s.size<400000000000) (hn:n<18446744073709551616):
  Calls prog 139 #[.slice ka kn kc,.string s,.int .u64 (n:Int)] w (vp w k (qD (jW s) s.size n)):=by
 have HK:=Hd hkl;obtain ⟨H,hH⟩:=Le w.heap.size;have HH:=Hd hH;have hR0:=Blk.new w (vA 32 fun _=> .int .u8 0) 170;rw [<-hH] at hR0;clear hkl hH;go_enter func139,ntmps139;go_wp2_with fail;refine (yl k ka kn kc _ (hk.alloc _) HK.out oA).mono ?_;rintro e w1 ⟨M,hi,ho,ha,hn1,hc,a2,n2,c2,rfl,hM,hb1⟩;simp only [Wg] at hM hb1;rw [<-HH.out] at hM hb1;go_wp2_with fail;have hsI:(s.size:Int)<=400000000000:=oA;refine (uZ s.size oA _).mono ?_;rintro e w2 ⟨g1,rfl,hg1,hB1,hb2⟩;go_wp2_with (refine oU rfl 9 22 (.tmp 19) rfl underlying9 underlying22 underlying5 rfl ?_;intro c3 w3 hB3 hb3 hg2');refine (uZ n hn _).mono ?_;rintro e w4 ⟨g3,rfl,hg3,hB4,hb4⟩;obtain ⟨g2,hg2⟩:=Le w2.heap.size;rw [<-hg2] at hB3 hg2'⊢;have hs2:=hb2.size;have hs3:=hb3.size;have hs4:=hb4.size;have hr2:=Wg w (.cells (vA 32 fun _=> .int .u8 0) 170);have hs1:=hb1.size;simp only [Wg] at hs1;have hH1:H=w.heap.size:=HH.out;have hz:=hM.inn.hash.lt;have hP:=Blk.new w4 #[.slice (some ⟨g1,0,none⟩) 8 8,.slice (some ⟨g2,0,none⟩) s.size c3,.slice (some ⟨g3,0,none⟩) 8 8] 22;obtain ⟨P,hPe⟩:=Le w4.heap.size;have hlt1:g1<w2.heap.size:=aw.lt hB1 (by rw [lmA,aL];omega);have hlt3:g3<w4.heap.size:=aw.lt hB4 (by rw [lmA,aL];omega);have hb14:=ae hb2 (ae hb3 hb4);have hb15:=hb14.alloc (show w1.heap.size<=w4.heap.size by omega) (.cells #[.slice (some ⟨g1,0,none⟩) 8 8,.slice (some ⟨g2,0,none⟩) s.size c3,.slice (some ⟨g3,0,none⟩) 8 8] 22);have hbel:Below H w w1:=(((AT w.heap.size w).alloc (Lt _) _).mono (VR hH1)).trans (hb1.mono oA);have hres:=(hR0.below hb1 oA).old hb15;have hst:Mk3 w H M k hi ho a2 n2 c2 P g1 g2 g3 c3 s.size w1.heap.size (P+1) (jW s) n 3 (.int .i64 0) (w4.alloc (.cells #[.slice (some ⟨g1,0,none⟩) 8 8,.slice (some ⟨g2,0,none⟩) s.size c3,.slice (some ⟨g3,0,none⟩) 8 8] 22)):=
  ⟨0,ha,hn1,hc,oA,rfl,⟨hres,hM.old hb15,fun r hr=> .inl (hM.inn.row.lt hr).2.1,hz,hPe▸hP,((hB1.below hb3).below hb4).alloc _,(hB3.below hb4).alloc _,hB4.alloc _,⟨oA,oA⟩,⟨oA,oA⟩,⟨oA,oA⟩,⟨oA,oA⟩,by rw [Wg,hPe];omega,hbel.trans (hb15.mono oA)⟩⟩
 have HSM:=Hd hsm;clear hs1 hs2 hs3 hs4 hr2 hz hg2' hlt1 hlt3 hb14 hb15 hbel hres hP hB1 hB3 hB4 hb1 hb2 hb3 hb4 hM hR0 hk hg1 hg2 hg3 hsI;obtain ⟨Z,hZ⟩:=Le w1.heap.size;rw [<-hZ] at hst;have HPE:=Hd hPe;clear hZ hPe hH1;go_wp2_with fail;rw [<-HPE.out,<-HH.out];clear HPE;refine jI (Mk3 w H M k hi ho a2 n2 c2 P g1 g2 g3 c3 s.size Z (P+1) (jW s) n 3 (.int .i64 0)) hst ?_;clear hst;intro w6 hst;go_loopg [25] 3 (Mk3 w H M k hi ho a2 n2 c2 P g1 g2 g3 c3 s.size Z (P+1) (jW s) n)
 case atStart=>exact hst
 case round=>
  clear hst;obtain ⟨t,ha,hn1,hc,hf,rfl,hI⟩:=hrel;have HF:=Hd hf;clear hf;by_cases ht:t<3
  .have h3:t=0\/t=1\/t=2:=oA;have HS:=Hd (CF s.size (jW s) n t);have hlen:(Gr s.size (jW s) n t).length<=400000000008:=by
    have hs0:=HSM.out;have hs1:=dm s;rcases h3 with rfl|rfl|rfl<;>simp [Gr,Ex,aL,List.range_succ]<;>omega
   have HLN:=Hd hlen;clear hlen;rcases h3 with rfl|rfl|rfl
   .have c0:wr.cell? ⟨P,0,none⟩=some (.slice (some ⟨g1,0,none⟩) 8 8):=hI.pcs.cell rfl;go_wp2_with fail;clear c0;refine (kL (H+1) M k _ (eJ s.size) hi ho ha hn1 hc a2 n2 c2 _ 8 8 _ hI.mac hI.b1 (aL _) (by have:=HLN.out;omega)).mono ?_;rintro e w7 ⟨a7,n7,c7,rfl,hM7,hfr7,hr7⟩;have hI7:=hI.write hM7 hfr7 hr7;clear hM7 hfr7 hr7 hI;go_wp2_with fail;go_roundg (gk-1)
    case rel=>exact ⟨0+1,a7,n7,c7,by have:=HF.out;omega,gnA,by rw [HS.out];exact hI7⟩
    case measure=>have:=HF.out;omega
   .have c0:wr.cell? ⟨P,1,none⟩=some (.slice (some ⟨g2,0,none⟩) s.size c3):=hI.pcs.cell rfl;go_wp2_with fail;clear c0;refine (kL (H+1) M k _ (jW s) hi ho ha hn1 hc a2 n2 c2 _ s.size c3 _ hI.mac hI.b2 (dm _) (by have:=HLN.out;have:=HSM.out;omega)).mono ?_;rintro e w7 ⟨a7,n7,c7,rfl,hM7,hfr7,hr7⟩;have hI7:=hI.write hM7 hfr7 hr7;clear hM7 hfr7 hr7 hI;go_wp2_with fail;go_roundg (gk-1)
    case rel=>exact ⟨1+1,a7,n7,c7,by have:=HF.out;omega,gnA,by rw [HS.out];exact hI7⟩
    case measure=>have:=HF.out;omega
   .have c0:wr.cell? ⟨P,2,none⟩=some (.slice (some ⟨g3,0,none⟩) 8 8):=hI.pcs.cell rfl;go_wp2_with fail;clear c0;refine (kL (H+1) M k _ (eJ n) hi ho ha hn1 hc a2 n2 c2 _ 8 8 _ hI.mac hI.b3 (aL _) (by have:=HLN.out;omega)).mono ?_;rintro e w7 ⟨a7,n7,c7,rfl,hM7,hfr7,hr7⟩;have hI7:=hI.write hM7 hfr7 hr7;clear hM7 hfr7 hr7 hI;go_wp2_with fail;go_roundg (gk-1)
    case rel=>exact ⟨2+1,a7,n7,c7,by have:=HF.out;omega,gnA,by rw [HS.out];exact hI7⟩
    case measure=>have:=HF.out;omega
  .obtain rfl:t=3:=(by have:=HF.out;omega);rw [Fk] at hI;have hlen:(qD (jW s) s.size n).length<=400000000016:=by
    have hs0:=HSM.out;have hs1:=dm s;simp [qD,aL];omega
   have HLN:=Hd hlen;clear hlen;go_wp2_with fail;refine (yk (H+1) M k _ hi ho ha hn1 hc a2 n2 c2 _ hI.mac (by have:=HLN.out;omega)).mono ?_;rintro e w7 ⟨rfl,hb7⟩;have hR7:=hI.res.old hb7;have hw7:=hI.below.trans (hb7.mono (by have:=hI.res.lt;omega));clear hI hb7;go_wp2_with (refine aa rfl 170 fG (.tmp 6) _ (cells:=mcA k (qD (jW s) s.size n)) rfl rfl rfl hR7 (ax _ _) (ax _ _) (du fun _ _=>rfl) ?_);exact cv rfl fG rfl (hR7.setRow _) (ax _ _) rfl ⟨rfl,HH.out▸ag hw7 (Lt _) _⟩
def Ry1 (w:World) (H:Nat) (s:ByteArray) (f:Nat) (v i:Value) (wr:World):Prop:=
 ∃(t:Nat) (a:Option Addr) (c:Nat),f+t=s.size/\i= .int .i64 (t:Int)/\v= .slice a (8+t) c/\Blk wr H (vA 32 fun _=> .int .u8 0) 170/\Own wr (H+1) 5 1 a (8+t) c ((eJ s.size++(jW s).take t).map bv)/\Below H w wr
theorem Bd (s:ByteArray) (t:Nat) (h:t<s.size):(jW s).take (t+1)=(jW s).take t++ [s[t]]:=by
 rw [VW (by rw [dm];exact h)];rfl
theorem xO (k:List UInt8) (ka:Option Addr) (kn kc:Nat) (s:ByteArray) (n:Nat) (w:World) (hk:ah w ka k) (hkl:k.length=kn) (hkm:kn<140737488352000) (hsm:s.size<400000000000) (hn:n<18446744073709551616):
  Calls prog 155 #[.slice ka kn kc,.string s,.int .u64 (n:Int)] w (vp w k (qD (jW s) s.size n)):=by
 have HK:=Hd hkl;obtain ⟨H,hH⟩:=Le w.heap.size;have HH:=Hd hH;have hR0:=Blk.new w (vA 32 fun _=> .int .u8 0) 170;rw [<-hH] at hR0;have hk0:=Hd hk;clear hkl hH hk;have hsI:(s.size:Int)<=400000000000:=oA;go_enter func155,ntmps155;go_wp2_with fail;refine (iu s.size oA _).mono ?_;rintro e w1 ⟨a,c,rfl,ho,hb1⟩;simp only [Wg] at ho hb1;rw [<-HH.out] at ho hb1;have hR1:=hR0.below hb1 oA;have hw1:Below H w w1:=(((AT w.heap.size w).alloc (Lt _) _).mono (VR HH.out)).trans (hb1.mono oA);have hst:Ry1 w H s s.size (.slice a 8 c) (.int .i64 0) w1:=⟨0,a,c,oA,rfl,rfl,hR1,by simpa using ho,hw1⟩;clear hR0 ho hb1 hR1 hw1;go_wp2_with fail;rw [<-HH.out];go_loopg [7,8] s.size (Ry1 w H s)
 case atStart=>exact hst
 case round=>
  clear hst;obtain ⟨t,a,c,hf,rfl,rfl,hR,ho,hb⟩:=hrel;have HF:=Hd hf;clear hf;have hle:=hR.lt;by_cases ht:t<s.size
  .have HS:=Hd (Bd s t ht);have tt:decide ((t:Int)<(s.size:Int))=true:=soA;have htI:(t:Int)<(s.size:Int):=oA;go_wp2_with (at_builtin;refine al rfl (.tmp 19) (.tmp 23) 22 rfl dK rfl (ho.alloc _) rfl (aw.new' _ _ _ _ skA) rfA (by exact dg _ rfl) mxA oA soA ?_);intro a4 c4 w4 own4 hg4;have hb4:=(ho.alloc (.cells #[_] 5)).grown (hb.alloc (Wt hle) _) oA hg4 soA;have hR4:=(hR.alloc (.cells #[_] 5)).grown hg4 fun e=>by
    have:=(World.ownsRow.lt ho _ e).1;omega
   clear hg4;go_wp2_with fail;go_roundg (gk-1)
   case rel=>
    refine ⟨t+1,a4,c4,by have:=HF.out;omega,gnA,rfl,hR4,?_,hb4⟩;rw [HS.out];simpa [bv,U8,WP] using own4
   case measure=>have:=HF.out;omega
  .obtain rfl:t=s.size:=(by have:=HF.out;omega);rw [Vj (by rw [dm];omega)] at ho;go_wp2_with fail;refine (iu n hn _).mono ?_;rintro e w2 ⟨a2,c2,rfl,ho2,hb2⟩;have hr2:=ho2.row;have hoA:=ho.old hb2;have hR2:=hR.old hb2;have hbA:=hb.trans (hb2.mono (Wt hle));have hle2:=hR2.lt;clear ho2 ho hR hb hb2;go_wp2_with (at_builtin;refine al rfl (.tmp 26) (.tmp 28) 22 rfl dK rfl hoA rfl hr2 (by rw [lmA,aL]) (cO _) mxA oA oA ?_);intro a4 c4 w4 own4 hg4;have hb4:=hoA.grown hbA oA hg4 oA;have hR4:=hR2.grown hg4 fun e=>by
    have:=(World.ownsRow.lt hoA _ e).1;omega
   have hr4:ah w4 a4 (qD (jW s) s.size n):=by
    have:=own4.row;unfold ah qD;rw [VG];exact this
   have hlen:(qD (jW s) s.size n).length=8+s.size+8:=(by simp [qD,aL,dm];omega);have HLN:=Hd hlen;have hkr:=hk0.out.below (HH.out▸hb4);clear own4 hg4 hoA hR2 hbA hr2 hlen hle hle2;go_wp2_with fail;refine (xN k _ ka kn kc a4 _ c4 _ hkr HK.out oA hr4 HLN.out oA).mono ?_;rintro e w5 ⟨rfl,hb5⟩;have hR5:=hR4.old hb5;have hw5:=hb4.trans (hb5.mono (by have:=hR4.lt;omega));clear hR4 hb4 hb5 hr4 hkr;go_wp2_with (refine aa rfl 170 fG (.tmp 6) _ (cells:=mcA k (qD (jW s) s.size n)) rfl rfl rfl hR5 (ax _ _) (ax _ _) (du fun _ _=>rfl) ?_);exact cv rfl fG rfl (hR5.setRow _) (ax _ _) rfl ⟨rfl,HH.out▸ag hw5 (Lt _) _⟩
end
end Go.Proofs.YtioigihakjlopaaGreat
