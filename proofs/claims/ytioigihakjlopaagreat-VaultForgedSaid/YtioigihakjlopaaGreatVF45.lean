import Derived.Test.YtioigihakjlopaaGreatVF44
namespace Go.Proofs.YtioigihakjlopaaGreat
open Go.Proofs.Tryz
set_option linter.unusedVariables false
set_option linter.unusedSimpArgs false
set_option maxHeartbeats 16000000
set_option maxRecDepth 100000
section
open Go.RowKit Go.Maps
def Fi (w wo:World) (pa0:Option Addr) (P0 d v:Nat) (args:List (ao×aW)) (n f:Nat) (put i:Value) (wr:World):Prop:=
 ∃(k:Nat) (r:aF) (V:aV) (pa:Option Addr) (pn pc:Nat) (ps:List (ao×aW)),k+f=n/\i= .int .i64 (k:Int)/\VL wr wo.heap.size r V/\r.d=d/\V.v=v/\V.R.nm=nmF/\V.down=false/\Pi r.p (k*25300)/\V.R.ls.length<=k/\
  put= .slice pa pn pc/\yP wr w.heap.size pa pn pc ps/\pn<=P0+k/\(∀x∈ps,x∈args)/\(∀x,jU r V x->¬atB pa x)/\(∀x,atB pa x->atB pa0 x\/wo.heap.size<=x)/\(∀x,x<wo.heap.size->¬atB pa0 x->wr.heap[x]? =wo.heap[x]?)/\wo.heap.size<=wr.heap.size/\Below w.heap.size w wr
def Fo (w:World) (FB:Nat) (args:List (ao×aW)) (f:Nat) (put j:Value) (wr:World):Prop:=
 ∃(k:Nat) (pa:Option Addr) (pn pc:Nat) (ps:List (ao×aW)) (g0 g1:List UInt8) (a0 a1:Option Addr) (n0 n1 c0 c1:Nat),k+f=2/\j= .int .i64 (k:Int)/\put= .slice pa pn pc/\yP wr w.heap.size pa pn pc ps/\pn<=20*k/\(∀x∈ps,x∈args)/\
  Blk wr FB #[.slice a0 n0 c0,.slice a1 n1 c1] 25/\g0.length=n0/\g1.length=n1/\Own wr w.heap.size 5 1 a0 n0 c0 (g0.map bv)/\Own wr w.heap.size 5 1 a1 n1 c1 (g1.map bv)/\n0<=506000/\n1<=506000/\w.heap.size<=FB/\Below w.heap.size w wr
def Fc (w:World) (FB:Nat) (pa:Option Addr) (pn pc:Nat) (ps:List (ao×aW)) (a0 a1 a2:Option Addr) (n0 n1 c0 c1 c2:Nat) (g1:List UInt8) (wx:World):Prop:=
 ∃l:List UInt8,l.length=n0/\Own wx w.heap.size 5 1 a2 n0 c2 (l.map bv)/\Own wx w.heap.size 40 15 pa pn pc (dv ps)/\Blk wx FB #[.slice a0 n0 c0,.slice a1 n1 c1] 25/\Own wx w.heap.size 5 1 a1 n1 c1 (g1.map bv)/\(∀ad ad',a1=some ad->a2=some ad'->ad.block≠ad'.block)/\Below w.heap.size w wx
theorem aw.keepX {w w':World} {a:Option Addr} {vs:List Value} (h:aw w a vs) (hk:∀x,atB a x->x<w.heap.size->w'.heap[x]? =w.heap[x]?):aw w' a vs:=fun i hi=>by
 obtain ⟨b,o,e,hc⟩:=h i hi;refine ⟨b,o,e,?_⟩;rw [VJ (a:=⟨b,o+i,none⟩) (hk b ⟨_,e,rfl⟩ (VV w _ hc))];exact hc
theorem dC.keepX {w w':World} {p:ao} {h:aW} (a:dC w p h) (hk:∀x,qR h x->x<w.heap.size->w'.heap[x]? =w.heap[x]?):dC w' p h:=
 ⟨a.kind,a.game,a.table,a.fmt,a.n0,a.n1,⟨aw.keepX a.d0.1 fun x hx=>hk x (.inl (.inl hx)),a.d0.2⟩,⟨aw.keepX a.d1.1 fun x hx=>hk x (.inl (.inr (.inl hx))),a.d1.2⟩,⟨aw.keepX a.dr.1 fun x hx=>hk x (.inl (.inr (.inr (.inl hx)))),a.dr.2⟩,
  ⟨a.act.op,a.act.side,a.act.place,a.act.target,⟨aw.keepX a.act.ids.1 fun x hx=>hk x (.inl (.inr (.inr (.inr hx)))),a.act.ids.2⟩,⟨aw.keepX a.act.pairs.1 fun x hx=>hk x (.inr hx),a.act.pairs.2⟩⟩⟩
theorem yd {w W:World} {a:Option Addr} {m:List UInt8} (h:ah w a m) (hz:w.heap.size<=W.heap.size) (F:Nat->Prop) (hF:∀x,F x->W.heap.size<=x):m≠ []->∀ad,a=some ad->¬F ad.block:=fun hne ad e hf=>by
 obtain ⟨b',o',e2,hc2⟩:=h 0 (by rw [lmA];exact List.length_pos_iff.2 hne);rw [e] at e2;cases e2;have q1:=VV w _ hc2;have q2:=hF _ hf;simp at q1 q2;omega
theorem pg (ma:Option Addr) (mn mc:Nat) (m:List UInt8) (oa:Option Addr) (on oc:Nat) (om:List UInt8) (a:Option Addr) (n c:Nat) (ds:List (ao×aW)) (z:Int) (y:UInt8) (w:World)
  (hma:ah w ma m) (hml:m.length=mn) (hoa:ah w oa om) (hol:om.length=on) (hd:DA w a n c ds) (hz: -9223372036854775808<=z/\z<=9223372036854775807):
  Calls prog 3 #[.slice ma mn mc,.slice oa on oc,.slice a n c,.int .i64 z,.int .u8 (U8 y)] w fun e w'=>e= .returned (.bool true)/\Below w.heap.size w w':=by
 obtain ⟨hda,hdl,hdc,hdm⟩:=hd;have HDL:=Hd hdl;clear hdl;by_cases hn:n<=20;rotate_left 1
 .have t1:decide ((20:Int)<(n:Int))=true:=soA;go_enter func3,ntmps3;go_wp2_with fail;refine (jj _).mono ?_;rintro e wz ⟨rfl,hbz⟩;have hbwz:Below w.heap.size w wz:=(AT w.heap.size w).trans (hbz.mono (AT w.heap.size w).size);go_wp2_with fail;go_ret;exact ⟨rfl,hbwz⟩
 have t1:decide ((20:Int)<(n:Int))=false:=soA;by_cases hm:mn<=64;rotate_left 1
 .have t3:decide ((64:Int)<(mn:Int))=true:=soA;go_enter func3,ntmps3;go_wp2_with fail;refine (jj _).mono ?_;rintro e wz ⟨rfl,hbz⟩;have hbwz:Below w.heap.size w wz:=(AT w.heap.size w).trans (hbz.mono (AT w.heap.size w).size);go_wp2_with fail;go_ret;exact ⟨rfl,hbwz⟩
 have t3:decide ((64:Int)<(mn:Int))=false:=soA;by_cases ho:on<=64;rotate_left 1
 .have t5:decide ((64:Int)<(on:Int))=true:=soA;go_enter func3,ntmps3;go_wp2_with fail;refine (jj _).mono ?_;rintro e wz ⟨rfl,hbz⟩;have hbwz:Below w.heap.size w wz:=(AT w.heap.size w).trans (hbz.mono (AT w.heap.size w).size);go_wp2_with fail;go_ret;exact ⟨rfl,hbwz⟩
 have t5:decide ((64:Int)<(on:Int))=false:=soA;have hix:∀k:Nat,k<2->∃ka kn kc km,(∀W,(Instr.index 25 (.agg #[.slice ma mn mc,.slice oa on oc]) (.int .i64 (k:Int))).run prog W= .ok (.slice ka kn kc) W)/\ah w ka km/\km.length=kn/\kn<=64:=fun k hk=>by
  match k,hk with
  |0,_=>exact ⟨ma,mn,mc,m,fun W=>by kernel_rfl,hma,hml,hm⟩
  |1,_=>exact ⟨oa,on,oc,om,fun W=>by kernel_rfl,hoa,hol,ho⟩
 have HIX:=Hd hix;have HN20:=Hd hn;have HM64:=Hd hm;clear hix hn hm ho;go_enter func3,ntmps3;go_upto_region 6 with fail;obtain ⟨FB,hFB⟩:=Le w.heap.size;rw [<-hFB];clear t1 t3 t5;refine af (fun W=>Fo w FB ds 2 (.slice none 0 0) (.int .i64 0) W) ⟨0,none,0,0,[],[],[],none,none,0,0,0,0,rfl,rfl,rfl,⟨Own.nil _ _ _ _,rfl⟩,oA,fun x hx=>(by cases hx),by subst hFB;exact Blk.new w _ _,rfl,rfl,Own.nil _ _ _ _,Own.nil _ _ _ _,oA,oA,VR hFB.symm,by subst hFB;exact cL⟩ ?_;clear hFB;intro w0 hst;go_wp2_with fail;go_loopg [12,49] 2 (fun f put j wr=>Fo w FB ds f put j wr)
 case atStart=>exact hst
 case round=>
  clear hst;obtain ⟨wo,hwo⟩:=Le wr;subst hwo;obtain ⟨fo,hfo⟩:=Le gk;subst hfo;obtain ⟨j,pa0,pn0,pc0,ps0,g0,g1,a0,a1,n0,n1,c0,c1,hj,rfl,rfl,⟨hpo,hpl⟩,hpz,hpm,bF,hg0,hg1,ho0,ho1,hz0,hz1,hFB,hbw⟩:=hrel;have HJ:=Hd hj;have HPL:=Hd hpl;have HPM:=Hd hpm;have HG0:=Hd hg0;have HG1:=Hd hg1;clear hj hpl hpm hg0 hg1;by_cases hj2:j<2
  .have t0:decide ((j:Int)<2)=true:=soA;obtain ⟨ka,kn,kc,km,hidx,hkb,hkl,hkz⟩:=HIX.out j hj2;go_wp2_with fail;clear hidx;refine (oz wo).mono ?_;rintro e w1 ⟨r1,rfl,hp1,hd1,hb1⟩;have HP1:=Hd hp1.out;have hbw1:=ae hbw hb1;clear hp1;obtain ⟨k1,k2,k3,k4,k5⟩:=uI (nm:=nmF) dcA km;have co:=lV w1 wo.heap.size r1 nmF hd1 hb1.size dcA ka kn kc km (hkb.below hbw1) hkl oA (yd hkb hbw.size (eM r1) fun x hx=>(hd1.lt hx).1);go_wp2_with fail;refine co.mono ?_;clear co;rintro e w2 ⟨r2,hp2,hst2,hres⟩;rw [HP1.out] at hres hp2;rcases hres with ⟨h1,_⟩|⟨_,V,rfl,hV,_,hl,hls,hnm,hdn,hhi⟩
   .exact absurd k1 h1
   rw [k4];rw [k2] at hp2;rw [k5] at hls;have hbw2:Below w.heap.size w w2:=hbw1.trans ((hst2.below hd1 hb1.size).mono hbw.size);have hsz2:wo.heap.size<=w2.heap.size:=At hb1.size hst2.turn.size;have hkeep:∀x,x<wo.heap.size->w2.heap[x]? =wo.heap[x]? :=fun x hx=>by
    rw [hst2.turn.block x (VF hx hb1.size) fun hf=>by have:=(hd1.lt hf).1;omega];exact hb1.block x hx
   have hpo2:Own w2 w.heap.size 40 15 pa0 pn0 pc0 (dv ps0):=hpo.keepAt fun ad e=>hkeep _ (hpo.block_lt e).2.1;obtain ⟨d,hdd⟩:=Le r1.d;have hrd:r2.d=d:=hst2.d.trans hdd.symm;rw [<-hdd];have hst:Fi w wo pa0 (20*j) d V.v ds n n (.slice pa0 pn0 pc0) (.int .i64 0) w2:=
    ⟨0,r2,V,pa0,pn0,pc0,ps0,oA,rfl,hV,hrd,rfl,hnm,hdn,⟨[],0,hp2,skA⟩,by rw [hls];exact Lt _,rfl,⟨hpo2,HPL.out⟩,oA,HPM.out,fun x hx hat=>by
     obtain ⟨ad,e,rfl⟩:=hat;have h1:=(hpo.block_lt e).2.1;have h2:=(hV.lt hx).1;omega,fun x hx=> .inl hx,fun x hx _=>hkeep x hx,hsz2,hbw2⟩
   have hpb:∀x,atB pa0 x->x≠FB/\(¬atB a0 x)/\¬atB a1 x:=fun x ⟨ad,e,hx⟩=>by
    obtain ⟨h1,h2,cur,h3⟩:=hpo.block_lt e;subst hx;refine ⟨h3.ne bF dcA,fun ⟨ad',e',hx'⟩=> ?_,fun ⟨ad',e',hx'⟩=> ?_⟩
    .obtain ⟨_,_,cur',h3'⟩:=ho0.block_lt e';exact h3.ne h3' dcA hx'
    .obtain ⟨_,_,cur',h3'⟩:=ho1.block_lt e';exact h3.ne h3' dcA hx'
   have HPB:=Hd hpb;generalize V.v=v at*;clear k1 k2 k3 k4 k5 hV hl hls hnm hdn hhi hbw2 hp2 hst2 hd1 HP1 hb1 hsz2 hkeep hpo2 hdd hrd hbw1 hpb hkb hkl hkz t0;go_wp2_with fail;go_loopg [12,69] n (fun f put i wx=>Fi w wo pa0 (20*j) d v ds n f put i wx)
   case atStart=>exact hst
   case round=>
    clear hst;obtain ⟨k,r,V,pa,pn,pc,ps,hf,rfl,hV,hrd,hvv,hnm,hdn,hOF,hls,rfl,⟨hso,hsl⟩,hsz,hsm,hA,hP0,hK,hzz,hbi⟩:=hrel;have HF:=Hd hf;have HRD:=Hd hrd;have HVV:=Hd hvv;have HNM:=Hd hnm;have HDN:=Hd hdn;have HOF:=Hd hOF;have HLS:=Hd hls;have HSL:=Hd hsl;have HSZ:=Hd hsz;have HA:=Hd hA;have HP0:=Hd hP0;have HK:=Hd hK;clear hf hrd hvv hnm hdn hOF hls hsl hsz hA hP0 hK;by_cases hkn:k<n
    .have t4:decide ((k:Int)<(n:Int))=true:=soA;have hkl:k<ds.length:=(by rw [HDL.out];exact hkn);obtain ⟨b,o,hab,hbl,hc⟩:=(hda.old hbi).elem k hkl;have hmem:ds[k]∈ds:=VE hkl;have hdd:=(hda.each _ hmem);generalize ds[k]=x at hc hdd hmem;obtain ⟨p,dh⟩:=x;dsimp only at hc hdd;rw [hab];go_upto_region 15 with (first|refine eC rfl 40 aZ _ rfl rfl rfl hc rfl ?_|refine aa rfl 40 aZ (.tmp 20) _ rfl rfl rfl (Blk.new wr bR 40) rfl rfl rfl ?_);obtain ⟨X,hX⟩:=Le wr.heap.size;rw [<-hX];refine af (fun W=>Blk W X (ak p dh).toArray 40/\Below wr.heap.size wr W) ⟨by rw [hX];exact (Blk.new wr bR 40).setRow _,by rw [hX];exact ag ((AT _ wr).alloc (Lt _) _) (Lt _) _⟩ ?_;rintro w3 ⟨bX,hb3⟩;have hXw:wr.heap.size<=X:=VR hX.symm;clear hX hc t4;have hbw3:=ae hbi hb3;have hV3:=hV.old hb3;have hso3:=hso.old hb3;have cg:=yS p dh w3 (hdd.old hbw3);rw [aH] at cg;have hXf:∀x,jU r V x->x≠X:=fun x hx=>(by have:=(hV.lt hx).2;omega);have HXF:=Hd hXf;have hk3:∀x,x<wo.heap.size->w3.heap[x]? =wr.heap[x]? :=fun x hx=>hb3.block x oA;have HK3:=Hd hk3;have hz3:=hb3.size;clear hb3 hXf hk3;go_wp2_with (first|refine fJ rfA 40 aZ (.tmp 20) rfl rfl bX rfl ?_);refine cg.mono ?_;clear cg;rintro e w4 ⟨rfl,hb4⟩;have hbw4:=ae hbw3 hb4;have hV4:=hV3.old hb4;have bX4:=bX.old hb4;have hso4:=hso3.old hb4;have hk4:∀x,x<wo.heap.size->w4.heap[x]? =wr.heap[x]? :=fun x hx=>(hb4.block x oA).trans (HK3.out x hx);have HK4:=Hd hk4;have hz4:=hb4.size;clear bX hbw3 hV3 hb4 hso3 hso hk4 HK3;cases hg:mA p with
     |true=>
      have hn:=HN20.out;go_wp2_with fail;rw [<-hab];go_roundg (gk-1)
      case measure=>have:=HF.out;omega
      case rel=>
       refine ⟨k+1,r,V,pa,pn,pc,ps,by have:=HF.out;omega,gnA,hV4,HRD.out,HVV.out,HNM.out,HDN.out,?_,by have:=HLS.out;omega,rfl,⟨hso4,HSL.out⟩,by have:=HSZ.out;omega,hsm,HA.out,HP0.out,fun x hx hn=>(HK4.out x hx).trans (HK.out x hx hn),oA,hbw4⟩;obtain ⟨b',s',e,hl'⟩:=HOF.out;exact ⟨b',s',e,At hl' (WZ _ (XB k))⟩
     |false=>
      have cp:=sf w4 wo.heap.size r V hV4 oA p dh (fun W ht=>hdd.old (hbw4.trans (ht.below (fun x hx=>At hbw.size (hV4.lt hx).1) hbw4.size))) (JG hg);rw [aH,HVV.out] at cp;have HGR:=Hd hg;clear hg;go_wp2_with (first|refine fJ rfA 40 aZ (.tmp 20) rfl rfl bX4 rfl ?_);refine cp.mono ?_;clear cp;rintro e w5 ⟨r5,V5,rfl,hst5,hp5,hl5,hls5,hnm5,hdn5⟩;have hn:=HN20.out;obtain ⟨q1,q2,q3⟩:=Ff (x:=p) HOF.out HNM.out HDN.out HGR.out HLS.out oA;rw [<-hp5] at q1;rw [<-hdn5] at q2;rw [<-hls5] at q3;have HOF5:=Hd q1;have HDN5:=Hd q2;have HLS5:=Hd q3;have HNM5:=Hd (hnm5.trans HNM.out);have HD5:=Hd (hst5.d.trans HRD.out);have HV5:=Hd (hst5.v.trans HVV.out);have bX5:Blk w5 X (ak p dh).toArray 40:=(hst5.turn.block X bX4.lt fun h=>HXF.out X h rfl).trans bX4;have hso5:=hso4.keepAt (w':=w5) fun ad e=>hst5.turn.block _ (hso4.block_lt e).2.1 fun h=>HA.out _ h ⟨ad,e,rfl⟩;have HA5:=Hd (show ∀x,jU r5 V5 x->¬atB pa x from fun x hx=>by
       rcases hst5.foot' x hx with h|h
       .exact HA.out x h
       .exact fun ⟨ad,e,q⟩=>by have:=(hso4.block_lt e).2.1;omega)
      have hbw5:=hbw4.trans (hst5.turn.below (fun x hx=>At hbw.size (hV4.lt hx).1) hbw4.size);have hV5:=hst5.at';have HK5:=Hd (show ∀x,x<wo.heap.size->¬atB pa0 x->w5.heap[x]? =wo.heap[x]? from fun x hx hn=>by
       rw [hst5.turn.block x oA fun hf=>by have:=(hV4.lt hf).1;omega];exact (HK4.out x hx).trans (HK.out x hx hn))
      have hz5:=hst5.turn.size;have hps:pn<=60:=(by have:=HSZ.out;omega);have HPS:=Hd hps;obtain ⟨E,hE⟩:=Le (qM r.p V p);rw [<-hE];have hl15:(ak p dh).length=15:=rfl;clear hE hst5 hp5 hl5 hls5 hnm5 hdn5 q1 q2 q3 hso4 bX4 hV4 hbw4 hdd hps HGR;have hsz5:=hbw5.size;by_cases hE0:E=0;rotate_left 1
      .have tE:(E==0)=false:=(by simpa using hE0);have HE:=Hd hE0;clear hE0;go_wp2_with fail;rw [<-hab];go_roundg (gk-1)
       case measure=>have:=HF.out;omega
       case rel=>exact ⟨k+1,r5,V5,pa,pn,pc,ps,by have:=HF.out;omega,gnA,hV5,HD5.out,HV5.out,HNM5.out,HDN5.out,HOF5.out,HLS5.out,rfl,⟨hso5,HSL.out⟩,by have:=HSZ.out;omega,hsm,HA5.out,HP0.out,HK5.out,oA,hbw5⟩
      subst hE0;by_cases hj0:j=0;rotate_left 1
      .have tj:((j:Int)==0)=false:=soA;have HJ0:=Hd hj0;clear hj0;go_wp2_with fail;rw [<-hab];go_roundg (gk-1)
       case measure=>have:=HF.out;omega
       case rel=>exact ⟨k+1,r5,V5,pa,pn,pc,ps,by have:=HF.out;omega,gnA,hV5,HD5.out,HV5.out,HNM5.out,HDN5.out,HOF5.out,HLS5.out,rfl,⟨hso5,HSL.out⟩,by have:=HSZ.out;omega,hsm,HA5.out,HP0.out,HK5.out,oA,hbw5⟩
      subst hj0;go_wp2_with (first|refine am rfl 40 aZ (.tmp 20) rfl rfl bX5 rfl ?_|(at_builtin;rw [kx];refine lw rfl _ _ 23 rfl vd rfl (hso5.alloc _) rfl (aw.new' w5 (ak p dh).toArray 40 _ rfl) rfA oA (by exact dg _ rfl) (by have:=HPS.out;unfold maxLen;omega) (by have:=HPS.out;omega) soA ?_));intro b2 c2 w6 ho6 hg6 hb6;have hgr:=zT (la:=none) hV5 (Own.nil w5 wo.heap.size 40 15) (fun x hx=>⟨HA5.out x hx,fun ⟨ad,e,_⟩=>by cases e⟩) (fun x _ ⟨ad,e,_⟩=>by cases e) hg6 (hb6.elim .inl fun h=> .inr (by rw [pt];exact h));have hbw6:Below w.heap.size w w6:=(hso5.alloc _).grown (hbw5.alloc hsz5 _) skA hg6 soA;have hz6:w5.heap.size<=w6.heap.size:=(by have:=hg6.size;simp at this;omega);have hk6:∀x,x<w5.heap.size->¬atB pa x->w6.heap[x]? =w5.heap[x]? :=fun x hx hn=>by
       refine (hg6.block x soA fun e=> ?_).trans (Vi _ _ _ hx);cases ha:pa with
       |none=>rw [ha] at e;cases e
       |some ad=>
        rw [ha] at e;simp [Value.ownBlock] at e;exact hn ⟨ad,ha,e⟩
      have HP6:=Hd (show ∀x,atB (some ⟨b2,0,none⟩) x->atB pa0 x\/wo.heap.size<=x from fun x ⟨ad,e,hx⟩=>by
       cases e;rcases hb6 with ⟨ad',e',hb'⟩|hb'
       .exact HP0.out x ⟨ad',e',hx.trans hb'⟩
       .try simp at hb'
        have:x=b2:=hx;exact .inr oA)
      have HK6:=Hd (show ∀x,x<wo.heap.size->¬atB pa0 x->w6.heap[x]? =wo.heap[x]? from fun x hx hn=>by
       rw [hk6 x oA fun h=>by
        rcases HP0.out x h with h|h
        .exact hn h
        .omega]
       exact HK5.out x hx hn)
      clear hg6 hb6 bX5 hk6;go_wp2_with fail;rw [<-hab];go_roundg (gk-1)
      case measure=>have:=HF.out;omega
      case rel=>exact ⟨k+1,r5,V5,some ⟨b2,0,none⟩,pn+1,c2,ps++ [(p,dh)],by have:=HF.out;omega,gnA,hgr.1,HD5.out,HV5.out,HNM5.out,HDN5.out,HOF5.out,HLS5.out,rfl,⟨by rw [lM];exact ho6,by rw [laA,HSL.out];rfl⟩,by have:=HSZ.out;omega,fun x hx=>(VQ.1 hx).elim (hsm x) fun h=>(VH.1 h)▸hmem,fun x hx=>(hgr.2.2.1 x hx).1,HP6.out,HK6.out,oA,hbw6⟩
    .obtain rfl:k=n:=(by have:=HF.out;omega);have t4:decide ((k:Int)<(k:Int))=false:=skA;obtain ⟨fb,fs,hfp,hfl⟩:=HOF.out;have cb:=sD wr wo.heap.size r nmF hV.disk dcA;rw [hfp,kK,HRD.out] at cb;dsimp only at cb;have hfz:fb.length<=506000:=At hfl (At (WZ _ HN20.out) oA);have HFP:=Hd hfp;clear hkn hfp hfl;go_wp2_with fail;refine cb.mono ?_;clear cb;rintro e w3 ⟨a3,n3,c3,rfl,hn3,ho3,hb3⟩;have hbw3:=ae hbi hb3;have hso3:=hso.old hb3;have hk3:∀x,x<wo.heap.size->¬atB pa0 x->w3.heap[x]? =wo.heap[x]? :=fun x hx hn=>(hb3.block x oA).trans (HK.out x hx hn);have hFl:=bF.lt;have bF3:Blk w3 FB #[.slice a0 n0 c0,.slice a1 n1 c1] 25:=(hk3 FB hFl fun h=>(HPB.out FB h).1 rfl).trans bF;have ho03:=ho0.keepAt (w':=w3) fun ad e=>hk3 _ (ho0.block_lt e).2.1 fun h=>(HPB.out _ h).2.1 ⟨ad,e,rfl⟩;have ho13:=ho1.keepAt (w':=w3) fun ad e=>hk3 _ (ho1.block_lt e).2.1 fun h=>(HPB.out _ h).2.2 ⟨ad,e,rfl⟩;replace ho3:=ho3.lower (B':=w.heap.size) hbi.size;have hps:pn<=20*(j+1):=(by have:=HSZ.out;have:=HN20.out;omega);have HN3:=Hd hn3;have f3:=bF3.free;have hz3':n3<=506000:=oA;clear hb3 hk3 hn3 hV HK HA HP0 hso hbi hfz t4;have hj01:j=0\/j=1:=oA;rcases hj01 with rfl|rfl
     .have cF:w3.cell? ⟨FB,0,none⟩=some (.slice a0 n0 c0):=bF3.cell rfl;go_wp2_with fail;go_roundg (fo-1)
      case measure=>have:=HJ.out;omega
      case rel=>exact ⟨1,pa,pn,pc,ps,fb,g1,a3,a1,n3,n1,c3,c1,by have:=HJ.out;omega,gnA,rfl,⟨hso3.setCell_apart bF3 dcA _ _,HSL.out⟩,hps,hsm,bF3.set 0 (.slice a3 n3 c3),HN3.out,HG1.out,ho3.setCell_apart bF3 dcA _ _,ho13.setCell_apart bF3 dcA _ _,hz3',hz1,hFB,hbw3.setCell hFB _⟩
     .have cF:w3.cell? ⟨FB,1,none⟩=some (.slice a1 n1 c1):=bF3.cell rfl;go_wp2_with fail;go_roundg (fo-1)
      case measure=>have:=HJ.out;omega
      case rel=>exact ⟨2,pa,pn,pc,ps,g0,fb,a0,a3,n0,n3,c0,c3,by have:=HJ.out;omega,gnA,rfl,⟨hso3.setCell_apart bF3 dcA _ _,HSL.out⟩,hps,hsm,bF3.set 1 (.slice a3 n3 c3),HG0.out,HN3.out,ho03.setCell_apart bF3 dcA _ _,ho3.setCell_apart bF3 dcA _ _,hz0,hz3',hFB,hbw3.setCell hFB _⟩
  .obtain rfl:j=2:=(by have:=HJ.out;omega);have t0:decide (((2:Nat):Int)<2)=false:=skA;have cF0:wo.cell? ⟨FB,0,none⟩=some (.slice a0 n0 c0):=bF.cell rfl;have hO:Own (wo.alloc (.cells #[] 5)) wo.heap.size 5 1 (some ⟨wo.heap.size,0,none⟩) 0 0 []:=Own.lit #[] [] 0 rfl rfl (Lt _) mxA;have hsz:=hbw.size;have cF1:(wo.alloc (.cells #[] 5)).cell? ⟨FB,0,none⟩=some (.slice a0 n0 c0):=(bF.alloc _).cell rfl;go_wp2_with (at_builtin;refine al rfl _ _ 22 rfl eF rfl hO rfl (ho0.alloc _).row (by rw [lmA,HG0.out,Vk]) (cO _) mxA oA skA ?_);intro a2 c2 w2 ho2 hg2;have hz2:=hg2.size;have hb2:∀x,x<wo.heap.size->w2.heap[x]? =wo.heap[x]? :=fun x hx=>by
    refine (hg2.block x soA fun e=> ?_).trans (Vi _ _ _ hx);simp [Value.ownBlock] at e;omega
   have hp2:=hpo.keepAt (w':=w2) fun ad e=>hb2 _ (hpo.block_lt e).2.1;have bF2:Blk w2 FB #[.slice a0 n0 c0,.slice a1 n1 c1] 25:=(hb2 FB bF.lt).trans bF;have ho12:=ho1.keepAt (w':=w2) fun ad e=>hb2 _ (ho1.block_lt e).2.1;have hbw2:Below w.heap.size w w2:=hO.grown (hbw.alloc hsz _) hsz hg2 soA;have hst:Fc w FB pa0 pn0 pc0 ps0 a0 a1 a2 n0 n1 c0 c1 c2 g1 w2:=⟨g0,HG0.out,by simpa using ho2.lower hsz,hp2,bF2,ho12,fun ad ad' e e'=>by
    have h1:=(ho1.block_lt e).2.1;have h2:=(ho2.block_lt e').1;omega,hbw2⟩
   clear hO cF0 cF1 hpo bF ho0 ho1 ho2 hg2 hz2 hb2 hp2 bF2 ho12 hbw2 hbw hsz t0;go_upto_if 108 with fail;go_cut [23] (fun v wx=>v= .slice a2 n0 c2/\Fc w FB pa0 pn0 pc0 ps0 a0 a1 a2 n0 n1 c0 c1 c2 g1 wx)
   case first=>
    by_cases h0:n0=0
    .have tn:decide ((0:Int)<(n0:Int))=false:=soA;go_wp2_with fail;go_meet;exact ⟨rfl,hst⟩
    .have tn:decide ((0:Int)<(n0:Int))=true:=soA;obtain ⟨l,hl,hol2,hpl2,bF2,ho12,hne2,hbw2⟩:=hst;have form:∃g,a2=some ⟨g,0,none⟩:=by
      rcases hol2.2 with ⟨h1,h2⟩|⟨g,cap,cur,h1,h2,h3,h4⟩
      .exact absurd h2 h0
      .exact ⟨g,by cases h1;rfl⟩
     obtain ⟨g,rfl⟩:=form;obtain ⟨q,hq⟩:∃q:Nat,((z.tmod (n0:Int))+(n0:Int)).tmod (n0:Int)=(q:Int)/\q<n0:=by
      have h1: -(n0:Int)<z.tmod n0:=by
       have:=Int.lt_tmod_of_pos z (b:=(n0:Int)) oA;omega
      have h2:z.tmod n0<(n0:Int):=Int.tmod_lt_of_pos z oA;refine ⟨(((z.tmod (n0:Int))+(n0:Int)).tmod (n0:Int)).toNat,?_⟩;rw [WJ oA];have h3:=Int.emod_nonneg (z.tmod (n0:Int)+(n0:Int)) (show (n0:Int)≠0 by omega);have h4:=Int.emod_lt_of_pos (z.tmod (n0:Int)+(n0:Int)) (show (0:Int)<n0 by omega);omega
     obtain ⟨hq1,hq2⟩:=hq;obtain ⟨t1,ht1⟩:∃t1,z.tmod (n0:Int)=t1:=⟨_,rfl⟩;have ht1z: -(n0:Int)<t1/\t1<n0:=by
      have h1:=Int.lt_tmod_of_pos z (b:=(n0:Int)) oA;have h2:=Int.tmod_lt_of_pos z (b:=(n0:Int)) oA;rw [ht1] at h1 h2;omega
     obtain ⟨u1,hu1⟩:=Le (z.tmod (n0:Int)+(n0:Int));rw [<-hu1] at hq1;have d1:IntKind.i64.wrap (z.tmod (n0:Int)+(n0:Int))=u1:=(by rw [ht1] at hu1⊢;rw [hu1,VZ];omega);clear hu1;have d3:((n0:Int)==0)=false:=soA;have d4:(n0:Int)≠0:=oA;have d5:(0:Int)<=(q:Int):=oA;have d6:(q:Int)<(n0:Int):=oA;have hcq:=hol2.cell q (by rw [lmA,hl];exact hq2);rw [Wz] at hcq;generalize l[q]=x at hcq;unfold bv at hcq;obtain ⟨hgB,_,cur,hB2⟩:=hol2.block_lt rfl;have fg:=hB2.free;have hxr:=lN (U8 x) (U8 y);have hfin:∀v:UInt8,Fc w FB pa0 pn0 pc0 ps0 a0 a1 (some ⟨g,0,none⟩) n0 n1 c0 c1 c2 g1 (w2.setCell ⟨g,q,none⟩ (.int .u8 (U8 v))):=fun v=>
      ⟨l.set q v,by rw [Xx,hl],by
       have:=hol2.set q hq2 (.int .u8 (U8 v));rw [show (l.set q v).map bv=(l.map bv).set q (.int .u8 (U8 v)) by rw [List.map_set];rfl];exact this,hpl2.setCell_apart hB2 dcA _ _,bF2.other _ _ (bF2.ne hB2 dcA),ho12.keepAt fun ad e=>VU _ _ _ _ fun h=>hne2 ad _ e rfl h,hne2,hbw2.setCell (p:=⟨g,q,none⟩) hgB _⟩
     have HFIN:=Hd hfin;clear hfin hol2 hpl2 bF2 ho12 hne2 hbw2 ht1z ht1 hgB;go_wp2_with fail;go_meet;refine ⟨rfl,?_⟩
     first
      |exact HFIN.out _
      |(rw [hxr];exact HFIN.out _)
   case rest=>
    obtain ⟨rfl,l,hl,hol,hpl,bF,ho1,hne,hbw⟩:=hcut;have HL:=Hd hl;clear hst hl;have cF1:wc.cell? ⟨FB,1,none⟩=some (.slice a1 n1 c1):=bF.cell rfl;have hsz:=hbw.size;go_wp2_with (at_builtin;refine al rfl _ _ 22 rfl eF rfl hol rfl ho1.row (by rw [lmA,HG1.out,Vk]) (cO _) mxA oA hsz ?_);intro a5 c5 w5 ho5 hg5;have hbw5:=hol.grown hbw (Lt _) hg5 hsz;have hp5:=hpl.apart hol dcA hg5;obtain ⟨bb,hbb⟩:=Le (l++g1);have hbl:bb.length=n0+n1:=(by rw [hbb,laA,HL.out,HG1.out]);rw [<-VG,<-hbb] at ho5;have HBL:=Hd hbl;have hbz:n0+n1<=1048576:=oA;clear hbb hbl hol hpl bF ho1 hne hbw hg5 cF1 hsz;go_wp2_with fail;refine (oz w5).mono ?_;rintro e w6 ⟨r6,rfl,hp6,hd6,hb6⟩;have HP6:=Hd hp6.out;clear hp6;obtain ⟨X,hX⟩:=Le w6.heap.size;go_upto_region 28 with fail;rw [<-hX];refine af (fun W=>db W X (fp X)/\aG W w5.heap.size r6/\Below w5.heap.size w5 W) ⟨by rw [hX];exact zI w6,hd6.alloc _,ae hb6 ((AT _ _).alloc (Lt _) _)⟩ ?_;rintro w7 ⟨hR7,hd7,hb7⟩;have hXw:w5.heap.size<=X:=(by have:=hb6.size;omega);have hap7:∀x,eM r6 x->¬ig (fp X) x:=fun x hx hr=>by
     have h1:=(hd6.lt hx).2;have h2:=(hR7.lt hr).1;omega
    have HAP7:=Hd hap7;clear hX hd6 hb6 hap7;have B5:w5.heap.size<=w7.heap.size:=hb7.size;have cb:=yp w7 w5.heap.size r6 nmF hd7 B5 dcA;rw [HP6.out,yj] at cb;go_wp2_with fail;refine cb.mono ?_;clear cb;rintro e w8 ⟨rfl,r8,hp8,hst8⟩;have hb8:Below w5.heap.size w5 w8:=hb7.trans (hst8.below hd7 B5);have hd8:=hst8.at';have hR8:db w8 X (fp X):=hR7.keep fun x hx=>hst8.turn.block x (hR7.lt hx).2 fun hf=>HAP7.out x hf hx;have hap8:=Hd (show ∀x,eM r8 x->¬ig (fp X) x from fun x hx hr=>by
     rcases hst8.foot' x hx with h|h
     .exact HAP7.out x h hr
     .have:=(hR7.lt hr).2;omega)
    have hdd8:=hst8.d;have HP8:=Hd hp8;have hbb:ah w8 a5 bb:=ho5.row.below hb8;have cb:=rQ w8 w5.heap.size r8 nmF hd8 hb8.size dcA a5 (n0+n1) c5 bb hbb HBL.out mxA;rw [HP8.out,qb bb (by rw [HBL.out];exact hbz),hdd8] at cb;clear hst8 hd7 hR7 hb7 HAP7 hbb hp8;go_wp2_with fail;refine cb.mono ?_;clear cb;rintro e w9 ⟨rfl,r9,hp9,hst9⟩;have hb9:Below w5.heap.size w5 w9:=hb8.trans (hst9.below hd8 hb8.size);have hd9:=hst9.at';have hR9:db w9 X (fp X):=hR8.keep fun x hx=>hst9.turn.block x (hR8.lt hx).2 fun hf=>hap8.out x hf hx;have hap9:=Hd (show ∀x,eM r9 x->¬ig (fp X) x from fun x hx hr=>by
     rcases hst9.foot' x hx with h|h
     .exact hap8.out x h hr
     .have:=(hR8.lt hr).2;omega)
    have hdd9:=hst9.d.trans hdd8;have HP9:=Hd hp9;have cb:=uj w9 X (fp X) nmF hR9 (Wt hR9.blk.lt);rw [BS,yj] at cb;clear hst9 hd8 hR8 hb8 hap8 hdd8 hp9;go_wp2_with fail;refine cb.mono ?_;clear cb;rintro e w10 ⟨rfl,r10,hp10,hst10,-⟩;replace hp10:=ER hp10;have hX9:X<=w9.heap.size:=Wt hR9.blk.lt;have hb10:Below w5.heap.size w5 w10:=hb9.trans ((hst10.below hR9 hX9).mono hXw);have hR10:=hst10.at';have hd10:aG w10 w5.heap.size r9:=hd9.keep fun x hx=>hst10.turn.block x (hd9.lt hx).2 fun hf=>hap9.out x hx hf;have hap10:=Hd (show ∀x,eM r9 x->¬ig r10 x from fun x hx hr=>by
     rcases hst10.foot' x hr with h|h
     .exact hap9.out x hx h
     .have:=(hd9.lt hx).2;omega)
    have hdd10:r10.d=X:=hst10.d;have HP10:=Hd hp10;have hbb:ah w10 a5 bb:=ho5.row.below hb10;have cb:=we w10 X r10 nmF hR10 (At hX9 hst10.turn.size) a5 (n0+n1) c5 bb hbb HBL.out mxA;rw [HP10.out,qb bb (by rw [HBL.out];exact hbz),hdd10] at cb;clear hst10 hd9 hR9 hb9 hap9 hbb hp10;go_wp2_with fail;refine cb.mono ?_;clear cb;rintro e w11 ⟨rfl,r11,hp11,hst11⟩;have hX10:X<=w10.heap.size:=(by have:=hR10.blk.lt;rw [hdd10] at this;omega);have hb11:Below w5.heap.size w5 w11:=hb10.trans ((hst11.below hR10 hX10).mono hXw);have hR11:=hst11.at';have hd11:aG w11 w5.heap.size r9:=hd10.keep fun x hx=>hst11.turn.block x (hd10.lt hx).2 fun hf=>hap10.out x hx hf;have hap11:=Hd (show ∀x,eM r9 x->¬ig r11 x from fun x hx hr=>by
     rcases hst11.foot' x hr with h|h
     .exact hap10.out x hx h
     .have:=(hd10.lt hx).2;omega)
    have hdd11:r11.d=X:=hst11.d.trans hdd10;have hX11:X<=w11.heap.size:=At hX10 hst11.turn.size;have HP11:=Hd hp11;have hbw11:Below w.heap.size w w11:=hbw5.trans (hb11.mono hbw5.size);have cb:=zk w11 X r11 nmF hR11 hX11 dcA (by rw [HP11.out];exact EA _ _) ma mn mc m (fun W ht=>hma.below (hbw11.trans (ht.below (fun x hx=>by have:=(hR11.lt hx).1;have:=hbw5.size;omega) hbw11.size))) hml (by have:=HM64.out;omega);rw [hdd11] at cb;clear hst11 hd10 hR10 hb10 hap10 hp11;go_wp2_with fail;refine cb.mono ?_;clear cb;rintro e w12 ⟨r12,hp12,hst12,hres⟩;rw [HP11.out,xZ] at hres;rcases hres with ⟨h1,_⟩|⟨_,V,rfl,hV,_,hVl,_,_,_,hVhi⟩
    .exact absurd rfl h1
    have hb12:Below w5.heap.size w5 w12:=hb11.trans ((hst12.below hR11 hX11).mono hXw);have hd12:aG w12 w5.heap.size r9:=hd11.keep fun x hx=>hst12.turn.block x (hd11.lt hx).2 fun hf=>hap11.out x hx hf;have hap12:=Hd (show ∀x,eM r9 x->¬(jE V.R x\/mf V x) from fun x hx hr=>by
     have h1:=hVhi x hr;have h2:=(hd11.lt hx).2;omega)
    have hbw12:Below w.heap.size w w12:=hbw5.trans (hb12.mono hbw5.size);have HVL:=Hd hVl;have co:=lV w12 w5.heap.size r9 nmF hd12 hb12.size dcA ma mn mc m (hma.below hbw12) hml (by have:=HM64.out;omega) (yd hma hbw5.size (eM r9) fun x hx=>(hd12.lt hx).1);rw [hdd9] at co;clear hst12 hd11 hR11 hb11 hap11 hp12 hVhi hVl;generalize qB (ee nmF bb 0) nmF m=vn at*;go_wp2_with fail;refine co.mono ?_;clear co;rintro e w13 ⟨r13,hp13,hst13,hres⟩;rw [HP9.out,xZ] at hres;rcases hres with ⟨h1,_⟩|⟨_,V2,rfl,hV2,_,hl2,_,_,_,_⟩
    .exact absurd rfl h1
    have hb13:Below w5.heap.size w5 w13:=hb12.trans (hst13.below hd12 hb12.size);have hbw13:Below w.heap.size w w13:=hbw5.trans (hb13.mono hbw5.size);have hkV:∀x,mf V x->x<w12.heap.size->w13.heap[x]? =w12.heap[x]? :=fun x hx hlt=>hst13.turn.block x hlt fun hf=>hap12.out x hf (.inr hx);have bV:Blk w13 V.v (kp V) 58:=(hkV _ (.inl rfl) hV.vault.blk.lt).trans hV.vault.blk;have hdV:fB w13 V.da V.ds:=⟨(hV.vault.deeds.keepAt (w':=w13) fun ad e=>hkV _ (.inr (.inr (.inl ⟨ad,e,rfl⟩))) (hV.vault.deeds.block_lt e).2.1).row,fun x hx=>(hV.vault.each x hx).keepX fun q hq=>hkV q (.inr (.inr (.inr ⟨x,hx,hq⟩)))⟩;have hdP:fB w13 pa0 ps0:=⟨hp5.row.below hb13,fun x hx=>(hda.each x (HPM.out x hx)).old hbw13⟩;have hpc:pn0<=pc0:=hp5.le;have hVz:V.ds.length<=4096:=At hV.vault.cnt hV.vault.log.cnt;have hV2z:=hV2.vault.small.1;have HL2:=Hd (show V2.l=aB V.ds by rw [hl2,<-HVL.out];rfl);obtain ⟨vn2,hvn⟩:=Le V.ds.length;have cV:w13.cell? ⟨V.v,2,none⟩=some (.slice V.da vn2 V.dc):=(by rw [hvn];exact bV.cell rfl);have cb:=pX w13 V.da pa0 vn2 pn0 V.dc pc0 V.ds ps0 hdV hdP hvn.symm HPL.out oA oA hpc;obtain ⟨D,hD⟩:=Le (decide (aB V.ds=(aB ps0).take (aB V.ds).length));rw [<-hD] at cb;have HD:=Hd hD;have HPC:=Hd hpc;have hVat:=hV2.vault;have HV2:=Hd hV2z;clear hst13 hd12 hap12 hb12 hV hkV hdV hD hpc hV2 hl2 hvn hp13 bV hbw12 hVz hV2z;go_wp2_with fail;refine cb.mono ?_;clear cb;rintro e w14 ⟨rfl,hb14⟩;have hbw14:=ae hbw13 hb14;cases D with
    |false=>
     clear cV;go_wp2_with fail;refine (jj _).mono ?_;rintro e wz ⟨rfl,hbz⟩;have hbwz:Below w.heap.size w wz:=hbw14.trans (hbz.mono hbw14.size);go_wp2_with fail;go_ret;exact ⟨rfl,hbwz⟩
    |true=>
     have cb:=mQ w14 w5.heap.size r13.d V2 (hVat.old hb14);clear cV;go_wp2_with fail;refine cb.mono ?_;clear cb;rintro e w15 ⟨a7,c7,es,rfl,hes,hoe,hb15⟩;have hbw15:=ae hbw14 hb15;have hez:es.length<=4096:=by
      have h1:=WG List.length hes;rw [lmA,aV.len] at h1;have:=HV2.out;omega
     have hep:aB es=aB V.ds:=hes.trans HL2.out;have cb:=pX w15 a7 pa0 es.length pn0 c7 pc0 es ps0 hoe.at ((hdP.old hb14).old hb15) rfl HPL.out oA oA HPC.out;rw [hep,<-HD.out] at cb;clear hb14 hb15 hbw14 hoe hes hep hdP;go_wp2_with fail;refine cb.mono ?_;clear cb;rintro e w16 ⟨rfl,hb16⟩;have hbw16:=ae hbw15 hb16;go_wp2_with fail;refine (jj _).mono ?_;rintro e wz ⟨rfl,hbz⟩;have hbwz:Below w.heap.size w wz:=hbw16.trans (hbz.mono hbw16.size);go_wp2_with fail;go_ret;exact ⟨rfl,hbwz⟩
end
end Go.Proofs.YtioigihakjlopaaGreat
