import Derived.Test.YtioigihakjlopaaGreatVF43
namespace Go.Proofs.YtioigihakjlopaaGreat
open Go.Proofs.Tryz
set_option linter.unusedVariables false
set_option linter.unusedSimpArgs false
set_option maxHeartbeats 16000000
set_option maxRecDepth 100000
section
open Go.RowKit
def RScP (w:World) (m:List UInt8) (ls:List (List UInt8)) (e:Ending) (w':World):Prop:=
 ∃a c ds,e= .returned (.tuple #[.slice a ds.length c,.int .i64 ((asQ (ls.take ds.length)).length:Int)])/\aB ds=fk m [] ls/\cz w' w.heap.size a c ds/\Below w.heap.size w w'
def Pd (w:World) (m:List UInt8) (ls:List (List UInt8)) (n:Nat) (f:Nat) (v6 v7 v8:Value) (wr:World):Prop:=
 ∃(k:Nat) (a:Option Addr) (c:Nat) (ds:List (ao×aW)),k+f=n/\v8= .int .i64 (k:Int)/\ds.length=k/\v6= .slice a k c/\v7= .int .i64 ((asQ (ls.take k)).length:Int)/\fk m (aB ds) (ls.drop k)=fk m [] ls/\cz wr w.heap.size a c ds/\Below w.heap.size w wr
theorem mj (ls:List (List UInt8)) (k:Nat) (hk:k<ls.length):(asQ (ls.take (k+1))).length=(asQ (ls.take k)).length+(8+(ls[k]).length):=by
 rw [VW hk];unfold asQ;rw [VG,XP,laA];simp [bM]
theorem kI (ls:List (List UInt8)) (h:∀x∈ls,x.length<=65536):∀k,(asQ (ls.take k)).length<=k*65544
 |0=>by simp [asQ]
 |k+1=>by
  have ih:=kI ls h k;by_cases hk:k<ls.length
  .rw [mj ls k hk];have:=h _ (VE hk);omega
  .have e1:ls.take (k+1)=ls:=Vj (At (Nat.le_of_not_lt hk) (XB k));have e2:ls.take k=ls:=Vj (Nat.le_of_not_lt hk);rw [e1];rw [e2] at ih;have e3:k*65544<=(k+1)*65544:=WZ _ (XB k);exact At ih e3
theorem vS (w:World) (ma:Option Addr) (mn mc:Nat) (m:List UInt8) (a:Option Addr) (n c:Nat) (ls:List (List UInt8)) (hma:ah w ma m) (hml:m.length=mn) (hmz:mn<=1000000) (hp:yL w a ls) (hn:ls.length=n) (hz:n<=4096) (hls:∀x∈ls,x.length<=65536):
  Calls prog 70 #[.slice ma mn mc,.slice a n c] w (RScP w m ls):=by
 obtain ⟨S,hS⟩:=Le (RScP w m ls);rw [<-hS];have HS:=Hd hS;have HN:=Hd hn;have HLS:=Hd hls;clear hS hn hls;go_enter func70,ntmps70;go_wp2_with fail;go_loopg [6,7,8] n (fun f v6 v7 v8 wr=>Pd w m ls n f v6 v7 v8 wr)
 case atStart=>exact ⟨0,none,0,[],oA,rfl,rfl,rfl,by simp [asQ],by simp [aB],cz.nil _ _,AT _ _⟩
 case round=>
  obtain ⟨k,a',c',ds,hf,rfl,hdl,rfl,rfl,hsc,hds,hb⟩:=hrel;have HF:=Hd hf;have HDL:=Hd hdl;have HSC:=Hd hsc;have hrz:=kI ls HLS.out k;clear hf hdl hsc;by_cases hk:k<n
  .have t0:decide ((k:Int)<(n:Int))=true:=soA;have hkl:k<ls.length:=(by rw [HN.out];exact hk);obtain ⟨b,o,A,C,rfl,hcell,hA,hlC,hCm⟩:=hp k hkl;have hbl:=VV w _ hcell;have hcw:wr.cell? ⟨b,o+k,none⟩=some (.slice A (ls[k]).length C):=(by rw [hb.cell (p:=⟨b,o+k,none⟩) hbl];exact hcell);have HR:=Hd (mj ls k hkl);have HDR:=Hd (show ls.drop k=ls[k]::ls.drop (k+1) from XJ hkl);have hxl:=HLS.out _ (VE hkl);obtain ⟨x,hx⟩:=Le (ls[k]);rw [<-hx] at hcw hA hlC hxl HR HDR;have hc0:w.cell? ⟨b,o+k,none⟩=some (.slice A x.length C):=(by rw [hx];exact hcell);clear hcell hx;obtain ⟨xn,hxn⟩:∃xn,x.length=xn:=⟨_,rfl⟩;rw [hxn] at hcw hlC hxl HR hc0;have HC0:=Hd hc0;clear hc0;have hdl2:ds.length=k:=HDL.out;have hrow:=hds.row.row;have cu:=vP wr ma mn mc m a' k c' ds A xn C x (hma.below hb) hml hmz hrow HDL.out oA (hA.below hb) hxn hlC hxl;have HU:=Hd (show fk m (aB ds) (ls.drop k)=if (br m (aB ds) x).2 then fk m (aB ds++ [(br m (aB ds) x).1]) (ls.drop (k+1)) else aB ds by rw [HDR.out];rfl);unfold DE at cu;clear hdl2 hrow;go_wp2_with fail;refine cu.mono ?_;clear cu;rintro e w2 ⟨h,rfl,ho,hb2⟩;generalize (br m (aB ds) x).1=p at*;generalize (br m (aB ds) x).2=ok at*;rw [aH];have hds2:=hds.old hb2;have hbw2:=ae hb hb2;replace ho:=ho.lower (B':=w.heap.size) hb.size;have hcw2:w2.cell? ⟨b,o+k,none⟩=some (.slice A xn C):=(by rw [hb2.cell (p:=⟨b,o+k,none⟩) (VF hbl hb.size)];exact hcw);clear hb hb2 hds hcw;go_upto_region 7 with (refine aa rfl 40 aZ (.tmp 9) _ rfl rfl rfl (Blk.new _ _ _) rfl rfl rfl ?_);obtain ⟨Y,hY⟩:=Le w2.heap.size;rw [<-hY];refine af (fun W=>Blk W Y (ak p h).toArray 40/\Below w2.heap.size w2 W) ⟨by rw [hY];exact (Blk.new _ _ _).setRow _,by rw [hY];exact ag ((AT _ _).alloc (Lt _) _) (Lt _) _⟩ ?_;clear hY;rintro w3 ⟨bY,hb3⟩;have hds3:=hds2.old hb3;have hbw3:=ae hbw2 hb3;replace ho:=ho.old hb3;have hcw3:w3.cell? ⟨b,o+k,none⟩=some (.slice A xn C):=(by rw [hb3.cell (p:=⟨b,o+k,none⟩) (VF hbl hbw2.size)];exact hcw2);clear hb3 hds2 hbw2 hcw2;cases hok:ok with
   |false=>
    have hfin:aB ds=fk m [] ls:=(by rw [<-HSC.out,HU.out,hok];rfl);have HFIN:=Hd hfin;clear hfin;go_wp2_with fail;rw [HS.out];exact ⟨a',c',ds,by rw [HDL.out];rfl,HFIN.out,hds3,hbw3⟩
   |true=>
    have hnext:fk m (aB (ds++ [(p,h)])) (ls.drop (k+1))=fk m [] ls:=by
     rw [<-HSC.out,HU.out,hok,if_pos rfl];simp [aB]
    have HNX:=Hd hnext;have hl15:(ak p h).length=15:=rfl;have hz3:=hbw3.size;have hrow3:=hds3.row;rw [HDL.out] at hrow3;have i1:IntKind.i64.wrap ((8:Int)+(xn:Int))=((8+xn:Nat):Int):=(by rw [VZ];omega);have i2:IntKind.i64.wrap (((asQ (ls.take k)).length:Int)+((8+xn:Nat):Int))=((asQ (ls.take (k+1))).length:Int):=(by rw [HR.out,VZ];omega);clear hnext hok;go_wp2_with (first|refine am rfl 40 aZ (.tmp 9) rfl rfl bY rfl ?_|(at_builtin;rw [kx];refine al rfl _ _ 23 rfl vd rfl (hrow3.alloc _) rfl (aw.new' w3 (ak p h).toArray 40 _ rfl) rfA (by exact dg _ rfl) mxA oA soA ?_));intro a5 c5 w5 hr5 hg5;have ho5:=hds3.more ho hg5 hr5 HDL.out;have hb5:Below w.heap.size w w5:=(hrow3.alloc _).grown (hbw3.alloc hbw3.size _) skA hg5 soA;have hal:Below w3.heap.size w3 (w3.alloc (.cells (ak p h).toArray 40)):=(AT _ _).alloc (Lt _) _;have hcw5:w5.cell? ⟨b,o+k,none⟩=some (.slice A xn C):=(by rw [hb5.cell (p:=⟨b,o+k,none⟩) hbl];exact HC0.out);clear hrow3 hg5 hr5 hal ho hds3 bY;go_wp2_with fail;go_roundg (gk-1)
    case rel=>
     refine ⟨k+1,a5,c5,ds++ [(p,h)],by have:=HF.out;omega,gnA,by simp [HDL.out],rfl,?_,HNX.out,ho5,hb5⟩;rw [HR.out];exact WG _ oA
    case measure=>have:=HF.out;omega
  .have t0:decide ((k:Int)<(n:Int))=false:=soA;have HE:=Hd (show aB ds=fk m [] ls by
    have h:=HSC.out;rw [List.drop_of_length_le (by rw [HN.out];omega)] at h;exact h)
   go_wp2_with fail;rw [HS.out];exact ⟨a',c',ds,by rw [HDL.out];rfl,HE.out,hds,hb⟩
end
section
open Go.RowKit Go.Maps
structure lv (w:World) (B:Nat) (d:Nat) (R:jP):Prop where
 ge:B<=R.l
 blk:Blk w R.l #[.pointer (some ⟨d,0,none⟩),.string R.nm,.slice R.a R.ls.length R.c,.int .i64 (R.sure:Int)] 126
 rows:aO w B 22 5 R.a R.ls.length R.c R.vs R.ls
 cnt:R.ls.length<=4096
 lens:∀x∈R.ls,x.length<=65536
 nmz:R.nm.size<=maxLen
 sle:R.sure<=R.ls.length
def jE (R:jP) (x:Nat):Prop:=x=R.l\/(∃ad,R.a=some ad/\x=ad.block)\/∃ad m C,Value.slice (some ad) m C∈R.vs/\x=ad.block
section
variable {w w':World} {B d:Nat} {R R' R'':jP} {r r' r'':di}
theorem lv.keep (h:lv w B d R) (hk:∀x,jE R x->w'.heap[x]? =w.heap[x]?):lv w' B d R:=
 ⟨h.ge,(hk _ (.inl rfl)).trans h.blk,h.rows.keep (fun x hx=>hk _ (.inr (.inl ⟨x,hx,rfl⟩))) (fun ad m C hm=>hk _ (.inr (.inr ⟨ad,m,C,hm,rfl⟩))),h.cnt,h.lens,h.nmz,h.sle⟩
theorem lv.lt (h:lv w B d R) {x:Nat} (hx:jE R x):B<=x/\x<w.heap.size:=by
 rcases hx with rfl|⟨ad,ha,rfl⟩|⟨ad,m,C,hm,rfl⟩
 .exact ⟨h.ge,h.blk.lt⟩
 .obtain ⟨h1,h2,_⟩:=h.rows.1.block_lt ha;exact ⟨h1,h2⟩
 .obtain ⟨h1,h2,_⟩:=h.rows.inner hm;exact ⟨h1,h2⟩
theorem lv.old (h:lv w B d R) (hb:Below w.heap.size w w'):lv w' B d R:=h.keep fun x hx=>hb.block x (h.lt hx).2
structure RDL (w:World) (B:Nat) (r:di) (R:jP):Prop where
 disk:db w B r
 log:lv w B r.d R
 apart:∀x,jE R x->¬ig r x
theorem RDL.keep (h:RDL w B r R) (hk:∀x,ig r x\/jE R x->w'.heap[x]? =w.heap[x]?):RDL w' B r R:=⟨h.disk.keep fun x hx=>hk x (.inl hx),h.log.keep fun x hx=>hk x (.inr hx),h.apart⟩
theorem RDL.lt (h:RDL w B r R) {x:Nat} (hx:ig r x\/jE R x):B<=x/\x<w.heap.size:=hx.elim h.disk.lt h.log.lt
theorem RDL.old (h:RDL w B r R) (hb:Below w.heap.size w w'):RDL w' B r R:=h.keep fun x hx=>hb.block x (h.lt hx).2
end
def Du (B:Nat) (w:World) (r:di) (nm:bz) (e:Ending) (w':World):Prop:=
 ∃r',r'.p=fU r.p nm/\de B w r w' r'/\
  ((dH r.p nm≠0/\e= .returned (.tuple #[.pointer none,.int .i64 0,.int .i64 (dH r.p nm)]))\/
   (dH r.p nm=0/\∃R,e= .returned (.tuple #[.pointer (some ⟨R.l,0,none⟩),.int .i64 (ii r.p nm:Int),.int .i64 0])/\RDL w' B r' R/\R.nm=nm/\R.ls=(cW r.p nm).1/\R.sure=R.ls.length/\∀x,jE R x->w.heap.size<=x))
theorem Ce {p q:aM} (h:FL p q) (hq:q.fs.length<=1):p=q:=by
 obtain ⟨hp,h1,h2,h3,h4⟩:=h;have e:p.fs=q.fs:=by
  match hl:q.fs,hq with
  | [],_=>rw [hl] at hp;exact hp.eq_nil
  | [x],_=>rw [hl] at hp;exact List.perm_singleton.1 hp
 cases p;cases q;simp_all
def tK (p:aM) (nm:bz):Prop:=∀f∈p.fs,f.name=nm
theorem EP {p:aM} {nm:bz} (h:tK p nm) (h4:(bG p nm).2=4):(ew p nm).1.fs.length<=1:=by
 have hno:p.fs=[]:=by
  unfold bG at h4;split at h4
  .simp at h4
  .cases hf:eW p nm with
   |some f=>rw [hf] at h4;simp at h4
   |none=>
    unfold eW at hf;rw [XZ] at hf
    match hl:p.fs with
    | []=>rfl
    |f::l=>
     have:=hf f (by rw [hl];simp);have:=h f (by rw [hl];simp);simp_all
 unfold ew;split
 .simp [hno]
 .split
  .simp [hno]
  .split
   .simp [hno]
   .split
    .simp [hno]
    .simp [hno]
theorem Ek {w0 w:World} {B:Nat} {r:di} {nm:bz} (h:db w B r) (h0:w0.heap.size<=w.heap.size) (hB:B<=w0.heap.size) (hs:nm.size<=maxLen) {a:Option Addr} {n c:Nat} {vs:List Value} {ls:List (List UInt8)} (hp:aO w w0.heap.size 22 5 a n c vs ls) (hcnt:ls.length<=4096) (hlen:∀x∈ls,x.length<=65536)
  (hna:∀x,((∃ad,a=some ad/\x=ad.block)\/∃ad m C,Value.slice (some ad) m C∈vs/\x=ad.block)->¬ig r x):
  RDL (w.alloc (.cells #[.pointer (some ⟨r.d,0,none⟩),.string nm,.slice a n c,.int .i64 (n:Int)] 126)) B r ⟨w.heap.size,nm,a,c,vs,ls,ls.length⟩:=by
 have hn:=hp.length;subst hn;have hb:Below w.heap.size w (w.alloc (.cells #[.pointer (some ⟨r.d,0,none⟩),.string nm,.slice a ls.length c,.int .i64 (ls.length:Int)] 126)):=(AT _ _).alloc (Lt _) _;refine ⟨h.old hb,⟨At hB h0,Blk.new _ _ _,(hp.lower hB).old hb,hcnt,hlen,hs,Lt _⟩,fun x hx hf=> ?_⟩;rcases hx with rfl|hx
 .have:=(h.lt hf).2;exact Nat.lt_irrefl _ this
 .exact hna x hx hf
theorem rj (w:World) (B:Nat) (r:di) (nm:bz) (h:db w B r) (hB:B<=w.heap.size) (hs:nm.size<=maxLen) (hone:tK r.p nm):
  Calls prog 69 #[.pointer (some ⟨r.d,0,none⟩),.string nm] w fun e w'=>Du B w r nm e w':=by
 have HRL:=Hd (kr h.ok nm);go_enter func69,ntmps69;go_wp2_with fail;refine (ug w B r nm h).mono ?_;rintro e w1 ⟨a,n,c,rfl,hn,hown,hb1⟩;have HN:=Hd hn;have h1:=h.old hb1;have hs1:de B w r w1 r:=⟨aJ.of_below hb1,h1,fun _ hx=> .inl hx,rfl⟩;have hz1:B<=w1.heap.size:=At hB hb1.size;clear hn;go_upto_if 17 with (fail);go_cut [6] from 17 (fun v wx=>v= .int .i64 (bS r.p nm).2/\∃r1,r1.p=(bS r.p nm).1/\de B w r wx r1/\(∀x,ig r1 x->ig r x\/w1.heap.size<=x)/\wx.heap.size≥w1.heap.size/\Own wx w.heap.size 5 1 a n c ((bG r.p nm).1.map bv))
 case first=>
  by_cases h4:(bG r.p nm).2=4
  .have t0:((bG r.p nm).2==4)=true:=(by simpa using h4);have HM:=Hd (show bS r.p nm=ew r.p nm by unfold bS;rw [if_pos h4]);have HMO:=Hd (EP hone h4);clear h4;go_wp2_with fail;refine (uj w1 B r nm h1 hz1).mono ?_;rintro e w2 ⟨rfl,r1,hlk,hs2,-⟩;have hr1:=Ce hlk HMO.out;go_wp2_with fail;go_meet
   case rel=>
    rw [HM.out];exact ⟨rfl,r1,hr1,hs1.trans hs2,hs2.foot',hs2.turn.size,hown.keepAt fun x hx=>hs2.turn.block x.block (hown.block_lt hx).2.1 (fun hf=>by
     have g1:=(hown.block_lt hx).1;have g2:=(h.lt hf).2;omega)⟩
  .have t0:((bG r.p nm).2==4)=false:=(by simpa using h4);have HM:=Hd (show bS r.p nm=(r.p,(bG r.p nm).2) by unfold bS;rw [if_neg h4]);clear h4;go_wp2_with fail;go_meet
   case rel=>
    rw [HM.out];exact ⟨rfl,r,rfl,hs1,fun x hx=> .inl hx,Lt _,hown⟩
 case rest=>
  obtain ⟨wa,rfl⟩:∃wa:World,wa=wc:=⟨_,rfl⟩;obtain ⟨rfl,r1,hr1,hs2,hf1,hz2,hown1⟩:=hcut;have h2:=hs2.at';have HR1:=Hd hr1;have hd1:=hs2.d;have hzc:B<=wa.heap.size:=At hz1 hz2;clear hr1 hown h1 hs1;by_cases hmk:(bS r.p nm).2=0
  .have HMK:=Hd hmk;rw [hmk];clear hmk;have hsc:=uo a n c (bG r.p nm).1 wa hown1.row HN.out (by have:=HRL.out;have:=HN.out;omega) hown1.le;rw [show scan iU (bG r.p nm).1=cW r.p nm from rfl] at hsc;obtain ⟨bad,hbd⟩:=Le ((cW r.p nm).2.length);have hble:bad<=n:=(by have:=pA iU (bG r.p nm).1;have:=HN.out;rw [hbd];show (scan iU (bG r.p nm).1).2.length<=n;omega);rw [<-hbd] at hsc;have HBD:=Hd hbd;clear hbd;go_step;go_wp2_with fail;refine hsc.mono ?_;clear hsc;rintro e w3 ⟨a2,n2,c2,vs,rfl,hp3,hb3⟩;have hn2:n2<=4096:=(by have h9:(cW r.p nm).1.length<=iU:=mY iU _;have:=hp3.length;have:=je;omega);have hnn:n<=1048576:=(by have:=HRL.out;have:=HN.out;omega);have h3:=h2.old hb3;have hz3:B<=w3.heap.size:=At hzc hb3.size;have hf3:∀x,ig r1 x->x<wa.heap.size:=fun x hx=>(h2.lt hx).2;have hs3:de B w r w3 r1:=hs2.trans ⟨aJ.of_below hb3,h3,fun _ hx=> .inl hx,rfl⟩;have hbel3:=hb3.size;clear hown1 hs2;go_upto_if 30 with (fail);go_cut [] from 30 (fun wx=>(aY r.p nm).2=0/\∃r2,r2.p=(aY r.p nm).1/\de B w r wx r2/\(∀x,ig r2 x->x<wa.heap.size\/w3.heap.size<=x)/\w3.heap.size<=wx.heap.size/\aO wx wa.heap.size 22 5 a2 n2 c2 vs (cW r.p nm).1)
   case first=>
    by_cases hbad:bad=0
    .have HC:=Hd (show aY r.p nm=((bS r.p nm).1,0) by unfold aY;rw [<-HBD.out,if_pos hbad]);have t2:¬0<bad:=oA;have HB:=Hd hbad;clear hbad;go_wp2_with fail;go_meet
     case rel=>
      rw [HC.out];exact ⟨rfl,r1,HR1.out,hs3,fun x hx=> .inl (hf3 x hx),Lt _,hp3⟩
    .have HC:=Hd (show aY r.p nm=jh (bS r.p nm).1 nm (((bG r.p nm).1.length-bad:Nat):Int) by unfold aY;rw [<-HBD.out,if_neg hbad]);have t2:0<bad:=oA;have HB:=Hd hbad;clear hbad;have hc:=xR w3 B r1 nm ((n:Int)-(bad:Int)) h3 hz3;have HCC:=Hd (show jh r1.p nm ((n:Int)-(bad:Int))=aY r.p nm by
      rw [HC.out,HR1.out,HN.out,show ((n-bad:Nat):Int)=(n:Int)-(bad:Int) from by omega])
     rw [HCC.out,hd1] at hc;go_wp2_with fail;refine hc.mono ?_;clear hc;rintro e w4 ⟨rfl,r2,hr2,hs4⟩;by_cases hcu:(aY r.p nm).2=0
     .have HCU:=Hd hcu;rw [hcu];clear hcu;go_wp2_with fail;go_meet
      case rel=>
       refine ⟨HCU.out,r2,hr2,hs3.trans hs4,fun x hx=> ?_,hs4.turn.size,?_⟩
       .rcases hs4.foot' x hx with g|g
        .exact .inl (hf3 x g)
        .exact .inr g
       .refine hp3.keep (fun x hx=>hs4.turn.block x.block (hp3.1.block_lt hx).2.1 fun hf=> ?_) (fun ad m C hm=>hs4.turn.block ad.block (hp3.inner hm).2.1 fun hf=> ?_)
        .have g1:=hf3 _ hf;have g2:=(hp3.1.block_lt hx).1;omega
        .have g1:=hf3 _ hf;have g2:=(hp3.inner hm).1;omega
     .have HE:=Hd (pJ HMK.out hcu);have t3:((aY r.p nm).2 !=0)=true:=(by simpa using hcu);have HCU:=Hd hcu;clear hcu;go_wp2_with fail;go_ret3;refine ⟨r2,hr2.trans HE.out.2.symm,hs3.trans hs4,.inl ⟨by rw [HE.out.1];exact HCU.out,?_⟩⟩;rw [HE.out.1]
      first|rfl|simp
   case rest=>
    obtain ⟨hcu,r2,hr2,hs4,hf4,hz4,hp4⟩:=hcut;have h4:=hs4.at';have HES:=Hd (ng HMK.out hcu);have HR2:=Hd hr2;have hB4:B<=wc.heap.size:=At hz3 hz4;have hsy:=Bp wc B r2 nm h4 hB4;rw [hr2,show eL (aY r.p nm).1 nm=dD r.p nm from rfl,hs4.d] at hsy;clear hr2 hcu;go_step;go_wp2_with fail;refine hsy.mono ?_;clear hsy;rintro e w5 ⟨rfl,r3,hr3,hs5⟩;have h5:=hs5.at';by_cases hsy:(dD r.p nm).2=0
    .have HS:=Hd (show dH r.p nm=0 by rw [HES.out.1];exact hsy);rw [hsy];have hd5:r3.d=r.d:=hs5.d.trans hs4.d;have hp5:aO w5 wa.heap.size 22 5 a2 n2 c2 vs (cW r.p nm).1:=by
      refine hp4.keep (fun x hx=>hs5.turn.block x.block (hp4.1.block_lt hx).2.1 fun hf=> ?_) (fun ad m C hm=>hs5.turn.block ad.block (hp4.inner hm).2.1 fun hf=> ?_)
      .rcases hf4 _ hf with g|g
       .have:=(hp4.1.block_lt hx).1;omega
       .have:=(hp3.1.block_lt hx).2.1;omega
      .rcases hf4 _ hf with g|g
       .have:=(hp4.inner hm).1;omega
       .have:=(hp3.inner hm).2.1;omega
     have hz5:wa.heap.size<=w5.heap.size:=At hb3.size (At hz4 hs5.turn.size);have HNL:=Hd (Ek h5 hz5 hzc hs hp5 (by have:=hp3.length;omega) (ud iU _) (fun x hx hf=>by
      have g0:wa.heap.size<=x/\x<w3.heap.size:=by
       rcases hx with ⟨ad,q1,rfl⟩|⟨ad,m,C,q1,rfl⟩
       .exact ⟨(hp3.1.block_lt q1).1,(hp3.1.block_lt q1).2.1⟩
       .exact ⟨(hp3.inner q1).1,(hp3.inner q1).2.1⟩
      rcases hs5.foot' x hf with g|g
      .rcases hf4 x g with g|g<;>omega
      .omega))
     rw [hd5] at HNL;have HSS:=Hd (hs4.trans hs5);have HLE:=Hd (And.intro (hp3.length) (fun x (hx:jE ⟨w5.heap.size,nm,a2,c2,vs,(cW r.p nm).1,(cW r.p nm).1.length⟩ x)=>show w.heap.size<=x by
      rcases hx with rfl|⟨ad,q1,rfl⟩|⟨ad,m,C,q1,rfl⟩
      .exact At hb1.size (At hz2 hz5)
      .exact At hb1.size (At hz2 (hp3.1.block_lt q1).1)
      .exact At hb1.size (At hz2 (hp3.inner q1).1)))
     have HR3:=Hd hr3;clear hsy hp5 hp4 hp3 hs4 hs5 h5 h4 h3 h2 hs3 hr3 hf4 hf3 hd5 hf1;go_wp2_with fail;go_ret3;have eN:ii r.p nm=bad:=(by unfold ii;rw [if_pos HS.out];exact HBD.out.symm);refine ⟨r3,HR3.out.trans HES.out.2.symm,HSS.out.trans ⟨aJ.of_below ((AT _ _).alloc (Lt _) _),HNL.out.disk,fun _ hx=> .inl hx,rfl⟩,.inr ⟨HS.out,⟨w5.heap.size,nm,a2,c2,vs,(cW r.p nm).1,(cW r.p nm).1.length⟩,?_,HNL.out,rfl,rfl,rfl,HLE.out.2⟩⟩;rw [eN]
     first|rfl|simp
    .have t3:((dD r.p nm).2 !=0)=true:=(by simpa using hsy);have HSY:=Hd hsy;clear hsy;go_wp2_with fail;go_ret3;refine ⟨r3,hr3.trans HES.out.2.symm,hs4.trans hs5,.inl ⟨by rw [HES.out.1];exact HSY.out,?_⟩⟩;rw [HES.out.1]
     first|rfl|simp
  .have HE:=Hd (sN hmk);have t1:((bS r.p nm).2 !=0)=true:=(by simpa using hmk);have HMK:=Hd hmk;clear hmk;go_step;go_wp2_with fail;go_ret3;refine ⟨r1,HR1.out.trans HE.out.2.symm,hs2,.inl ⟨by rw [HE.out.1];exact HMK.out,?_⟩⟩;rw [HE.out.1]
   first|rfl|simp
def eo (p:aM):List bz:=p.fs.map (·.name)
theorem tK.of_names {p q:aM} {nm:bz} (h:tK p nm) (e:eo q=eo p):tK q nm:=fun f hf=>by
 have h1:f.name∈eo q:=VY.2 ⟨f,hf,rfl⟩;rw [e] at h1;obtain ⟨g,hg,he⟩:=VY.1 h1;rw [<-he];exact h g hg
theorem AM (p:aM) (nm:bz) (g:dx->dx) (hg:∀f,(g f).name=f.name):eo (jQ p nm g)=eo p:=by
 unfold eo jQ AN;rw [WB];refine WS fun f _=> ?_;simp only [Function.comp];split
 .exact hg f
 .rfl
theorem CT (p:aM) (plan:eA):eo (lq p plan)=eo p:=by
 unfold eo lq;rw [WB];rfl
theorem yx (p:aM):eo (dz p).1=eo p:=by
 unfold dz;split
 .rfl
 .split
  .rfl
  .exact CT p p.plan
theorem BU (p:aM) (nm:bz) (g:dx->aM×Int) (hg:∀f,eo (g f).1=eo p):eo (lH p nm g).1=eo p:=by
 unfold lH;split
 .rfl
 .split
  .rfl
  .exact hg _
theorem DN (p:aM) (nm:bz):eo (eL p nm).1=eo p:=BU p nm _ fun f=>by
 split
 .exact (AM (dz p).1 nm (fun f=>{f with sure:=f.b.length}) fun _=>rfl).trans (yx p)
 .exact yx p
theorem CO (p:aM) (nm:bz) (n:Int):eo (jh p nm n).1=eo p:=BU p nm _ fun f=>by
 split
 .rfl
 .exact AM p nm _ fun _=>rfl
theorem Cb {p:aM} {nm:bz} (h:tK p nm):tK (ew p nm).1 nm:=by
 unfold ew;split
 .exact h
 .split
  .exact h
  .split
   .exact h
   .split
    .exact h
    .intro f hf;rcases VQ.1 hf with hf|hf
     .exact h f hf
     .rw [VH.1 hf]
theorem BM {p:aM} {nm:bz} (h:tK p nm):tK (fU p nm) nm:=by
 have h1:tK (bS p nm).1 nm:=by
  unfold bS;split
  .exact Cb h
  .exact h
 have h2:tK (aY p nm).1 nm:=by
  unfold aY;split
  .exact h1
  .exact h1.of_names (CO _ _ _)
 have h3:tK (dD p nm).1 nm:=h2.of_names (DN _ _);unfold fU;split
 .exact h1
 .split
  .exact h2
  .exact h3
end
section
open Go.RowKit
structure kC where
 v:Nat
 ma:Option Addr
 mc:Nat
 m:List UInt8
 R:jP
 da:Option Addr
 dc:Nat
 ds:List (ao×aW)
 down:Bool
def kC.l (V:kC):List ao:=aB V.ds
def kp (V:kC):Array Value:= #[.pointer (some ⟨V.R.l,0,none⟩),.slice V.ma V.m.length V.mc,.slice V.da V.ds.length V.dc,.bool V.down]
def mf (V:kC) (x:Nat):Prop:=x=V.v\/atB V.ma x\/atB V.da x\/∃y∈V.ds,qR y.2 x
structure FK (w:World) (B d:Nat) (V:kC):Prop where
 ge:B<=V.v
 blk:Blk w V.v (kp V) 58
 master:Own w B 5 1 V.ma V.m.length V.mc (V.m.map bv)
 mz:V.m.length<=1000000
 log:lv w B d V.R
 deeds:Own w B 40 15 V.da V.ds.length V.dc (dv V.ds)
 each:∀x∈V.ds,dC w x.1 x.2
 cnt:V.ds.length<=V.R.ls.length
structure RVL (w:World) (B:Nat) (r:di) (V:kC):Prop where
 disk:db w B r
 vault:FK w B r.d V
 sepl:∀x,mf V x->¬jE V.R x
 sepd:∀x,jE V.R x\/mf V x->¬ig r x
theorem cz.lt {w:World} {B:Nat} {a:Option Addr} {c:Nat} {ds:List (ao×aW)} (h:cz w B a c ds) {x:Nat} (hx:atB a x\/∃y∈ds,qR y.2 x):B<=x/\x<w.heap.size:=by
 rcases hx with ⟨ad,ha,rfl⟩|⟨y,hy,hi⟩
 .exact ⟨(h.row.block_lt ha).1,(h.row.block_lt ha).2.1⟩
 .exact ⟨((h.each y hy).innerLt hi).1,((h.each y hy).innerLt hi).2.1⟩
theorem uf {w0 W W3:World} {B S E:Nat} {r:di} {R:jP} {m:List UInt8} {a5:Option Addr} {c5:Nat} {da:Option Addr} {dc:Nat} {ds:List (ao×aW)} (h:RDL W B r R) (hB:B<=w0.heap.size) (h0:w0.heap.size<=S)
  (hSE:∀x,ig r x\/jE R x->x<S\/E<=x) (hds:cz W S da dc ds) (hdE:∀x,(atB da x\/∃y∈ds,qR y.2 x)->x<E) (hEW:E<=W.heap.size) (hSW:S<=W.heap.size) (hq:∀x,jE R x->w0.heap.size<=x)
  (hm:Own W3 W.heap.size 5 1 a5 m.length c5 (m.map bv)) (hb3:Below W.heap.size W W3) (hmz:m.length<=1000000) (hcnt:ds.length<=R.ls.length):
  RVL (W3.alloc (.cells (kp ⟨W3.heap.size,a5,c5,m,R,da,dc,ds,false⟩) 58)) B r ⟨W3.heap.size,a5,c5,m,R,da,dc,ds,false⟩/\∀x,jE R x\/mf ⟨W3.heap.size,a5,c5,m,R,da,dc,ds,false⟩ x->w0.heap.size<=x:=by
 have hb4:Below W.heap.size W (W3.alloc (.cells (kp ⟨W3.heap.size,a5,c5,m,R,da,dc,ds,false⟩) 58)):=hb3.alloc hb3.size _;have hz3:=hb3.size;have hBS:B<=S:=At hB h0;have hrest:∀x,mf ⟨W3.heap.size,a5,c5,m,R,da,dc,ds,false⟩ x->W.heap.size<=x\/(S<=x/\x<E):=fun x hx=>by
  rcases hx with rfl|⟨ad,ha,rfl⟩|hx|hx
  .exact .inl hz3
  .exact .inl (hm.block_lt ha).1
  .exact .inr ⟨(hds.lt (.inl hx)).1,hdE x (.inl hx)⟩
  .exact .inr ⟨(hds.lt (.inr hx)).1,hdE x (.inr hx)⟩
 refine ⟨⟨h.disk.old hb4,⟨by show B<=W3.heap.size;omega,Blk.new _ _ _,(hm.lower oA).alloc _,hmz,h.log.old hb4,(hds.row.lower hBS).old hb4,fun x hx=>((hds.each x hx).at).old hb4,hcnt⟩,fun x hx hl=> ?_,fun x hx hr=> ?_⟩,fun x hx=> ?_⟩
 .have h1:=(h.lt (.inr hl)).2;have h2:=hSE x (.inr hl);have h3:=hrest x hx;omega
 .rcases hx with hx|hx
  .exact h.apart x hx hr
  .have h1:=(h.lt (.inl hr)).2;have h2:=hSE x (.inl hr);have h3:=hrest x hx;omega
 .rcases hx with hx|hx
  .exact hq x hx
  .have h3:=hrest x hx;omega
theorem cz.keepB {w w':World} {B:Nat} {a:Option Addr} {c:Nat} {ds:List (ao×aW)} (h:cz w B a c ds) (hk:∀x,(atB a x\/∃y∈ds,qR y.2 x)->w'.heap[x]? =w.heap[x]?):cz w' B a c ds:=
 ⟨h.row.keepAt fun x hx=>hk _ (.inl ⟨x,hx,rfl⟩),fun x hx=>(h.each x hx).keepB fun y hy=>hk y (.inr ⟨x,hx,hy⟩)⟩
def iM (B:Nat) (w:World) (r:di) (nm:bz) (m:List UInt8) (e:Ending) (w':World):Prop:=
 ∃r',r'.p=sg r.p nm m/\de B w r w' r'/\
  ((kV r.p nm m≠0/\e= .returned (.tuple #[.pointer none,.int .i64 0,.int .i64 (kV r.p nm m)]))\/
   (kV r.p nm m=0/\∃V,e= .returned (.tuple #[.pointer (some ⟨V.v,0,none⟩),.int .i64 (qB r.p nm m:Int),.int .i64 0])/\RVL w' B r' V/\V.m=m/\V.l=nA r.p nm m/\V.R.ls=qH r.p nm m/\V.R.nm=nm/\V.down=false/\∀x,jE V.R x\/mf V x->w.heap.size<=x))
theorem Ft {p:aM} {nm:bz} (n:Int) (h:tK p nm):tK (jh p nm n).1 nm:=tK.of_names h (CO p nm n)
theorem zk (w:World) (B:Nat) (r:di) (nm:bz) (h:db w B r) (hB:B<=w.heap.size) (hs:nm.size<=maxLen) (hone:tK r.p nm) (ma:Option Addr) (mn mc:Nat) (m:List UInt8) (hma:∀W,aJ (ig r) w W->ah W ma m) (hml:m.length=mn) (hmz:mn<=1000000):
  Calls prog 19 #[.pointer (some ⟨r.d,0,none⟩),.string nm,.slice ma mn mc] w (iM B w r nm m):=by
 obtain ⟨S,hS⟩:=Le (iM B w r nm m);rw [<-hS];have HS:=Hd hS;clear hS;have cb:=rj w B r nm h hB hs hone;go_enter func19,ntmps19;go_wp2_with fail;refine cb.mono ?_;clear cb;rintro e w1 ⟨r1,hp1,hs1,hcase⟩;rcases hcase with ⟨hE,rfl⟩|⟨hE,R,rfl,hRDL,hnm,hls,hsure,hq⟩
 .have hres:iM B w r nm m (.returned (.tuple #[.pointer none,.int .i64 0,.int .i64 (dH r.p nm)])) w1:=by
   have e1:kV r.p nm m=dH r.p nm:=(by unfold kV;rw [if_pos hE]);refine ⟨r1,by rw [hp1];unfold sg;rw [if_pos hE],hs1,.inl ⟨by rw [e1];exact hE,by rw [e1]⟩⟩
  have HRES:=Hd hres;have te:(dH r.p nm !=0)=true:=(by simpa using hE);clear hres hE;go_wp2_with fail;rw [HS.out];go_ret3;exact HRES.out
 have te:(dH r.p nm !=0)=false:=(by simp [hE]);have hma1:=hma w1 hs1.turn;have cs:=vS w1 ma mn mc m R.a R.ls.length R.c R.ls hma1 hml hmz hRDL.log.rows.pieces rfl hRDL.log.cnt hRDL.log.lens;have hlr:=hRDL.log.blk.rule;have HML:=Hd hml;have HLS:=Hd hls;clear hml;obtain ⟨N,hN⟩:∃N,R.ls.length=N:=⟨_,rfl⟩;rw [hN] at hlr cs;have HN:=Hd hN;have hNz:N<=4096:=(by rw [<-hN];exact hRDL.log.cnt);have hHE:=Hd hE;clear hE hN hls;go_wp2_with fail;refine cs.mono ?_;clear cs;rintro e w2 ⟨a2,c2,ds,rfl,hpl,hds,hb2⟩;have hR2:=hRDL.old hb2;have hl2:=hR2.log.blk.rule;rw [HN.out] at hl2;have hKN:ds.length<=N:=by
  have h1:=(xK m R.ls []).2;rw [<-hpl,aB,lmA,Wy,VS,HN.out] at h1;exact h1
 have hVL:aB ds=nA r.p nm m:=(by rw [hpl,HLS.out];rfl);have hKL:(nA r.p nm m).length=ds.length:=(by rw [<-hVL,aB,lmA]);have hAz:(asQ (R.ls.take ds.length)).length<=4096*65544:=At (kI R.ls hRDL.log.lens _) (WZ _ oA);have hAt:(asQ (R.ls.take ds.length)).length=ie r.p nm m:=(by unfold ie;rw [hKL,HLS.out]);obtain ⟨K,hK⟩:∃K,ds.length=K:=⟨_,rfl⟩;rw [hK] at hKN hAz hAt hKL⊢;rw [hAt] at hAz⊢;have HK:=Hd hK;have HVL:=Hd hVL;have HKL:=Hd hKL;have HAT:=Hd hAt;have s1z:=hs1.turn.size;have hdl:∀x,(atB a2 x\/∃y∈ds,qR y.2 x)->w1.heap.size<=x/\x<w2.heap.size:=fun x hx=>hds.lt hx;have hsp:∀x,ig r1 x\/jE R x->x<w1.heap.size:=fun x hx=>(hRDL.lt hx).2;have hlens:=hRDL.log.lens;clear hlr hK hpl hVL hKL hAt hRDL;obtain ⟨A,hAv⟩:∃A,ie r.p nm m=A:=⟨_,rfl⟩;rw [hAv] at hAz HAT⊢;have HAV:=Hd hAv;clear hAv;by_cases hfull:K=N
 .subst hfull;have t0:decide ((K:Int)<(K:Int))=false:=skA;have hmaW:ah w2 ma m:=hma1.below hb2;have hVE:ej r.p nm m=true:=(by unfold ej;exact VO (by rw [HKL.out,<-HLS.out,HN.out]));have hres:∀W V,RVL W B r1 V/\(∀x,jE V.R x\/mf V x->w.heap.size<=x)->Below w2.heap.size w2 W->V.m=m->V.ds=ds->V.R=R->V.down=false->iM B w r nm m (.returned (.tuple #[.pointer (some ⟨V.v,0,none⟩),.int .i64 (ii r.p nm:Int),.int .i64 0])) W:=by
   intro W V hV hbW e1 e2 e3 e4;have q1:kV r.p nm m=0:=(by unfold kV;rw [if_neg (by rw [hHE.out];decide),if_pos hVE]);have q2:sg r.p nm m=fU r.p nm:=(by unfold sg;rw [if_neg (by rw [hHE.out];decide),if_pos hVE]);have q3:qB r.p nm m=ii r.p nm:=(by unfold qB;rw [if_pos hVE]);refine ⟨r1,by rw [hp1,q2],hs1.trans (de.old hs1.at' (ae hb2 hbW)),.inr ⟨q1,V,by rw [q3],hV.1,e1,?_,?_,by rw [e3];exact hnm,e4,hV.2⟩⟩
   .unfold kC.l;rw [e2];exact HVL.out
   .rw [e3,HLS.out];unfold qH;rw [HKL.out,<-HLS.out,Vj (by rw [HN.out];exact Lt _)]
  have HRES:=Hd hres;clear hres hVE;go_wp2_with (at_builtin;refine al rfl _ _ 22 rfl eF rfl (Own.nil w2 w2.heap.size 5 1) rfl hmaW (by rw [lmA,HML.out,Vk]) (cO _) mxA oA (Lt _) ?_);intro a5 c5 W5 ho5 hg5;have hb5:Below w2.heap.size w2 W5:=(Own.nil w2 w2.heap.size 5 1).grown (AT _ _) (Lt _) hg5 (Lt _);have ho6:Own W5 w2.heap.size 5 1 a5 m.length c5 (m.map bv):=(by rw [HML.out];simpa using ho5);have hmk:=uf (w0:=w) hR2 hB s1z (fun x hx=> .inl (hsp x hx)) hds (fun x hx=>(hdl x hx).2) (Lt _) hb2.size hq ho6 hb5 (by rw [HML.out];exact hmz) (by rw [HK.out,HN.out];exact Lt _);clear ho5 hg5;go_wp2_with fail;rw [HS.out];go_ret3;rw [show kp ⟨W5.heap.size,a5,c5,m,R,a2,c2,ds,false⟩= #[.pointer (some ⟨R.l,0,none⟩),.slice a5 mn c5,.slice a2 K c2,.bool false] by unfold kp;dsimp only;rw [HML.out,HK.out]] at hmk;exact HRES.out _ ⟨W5.heap.size,a5,c5,m,R,a2,c2,ds,false⟩ hmk (hb5.alloc hb5.size _) rfl rfl rfl rfl
 .have hKN2:K<N:=oA;have t0:decide ((K:Int)<(N:Int))=true:=soA;have hVE:ej r.p nm m=false:=(by unfold ej;exact Vd (by rw [HKL.out,<-HLS.out,HN.out];omega));have hVC:dS r.p nm m=jh r1.p nm (A:Int):=by
   unfold dS;rw [hp1];have:=HAT.out;rw [HAV.out]
  have hread:=(kJ hHE.out).1;rw [<-hp1,<-HLS.out] at hread;have HVE:=Hd hVE;have HVC:=Hd hVC;have hNl:ii r.p nm<=1048576:=by
   unfold ii;split
   .have h1:=(pz iU (bG r.p nm).1).1;have h2:=kr h.ok nm;have h3:=WG List.length h1;rw [laA] at h3;unfold cW;omega
   .omega
  have hRL:A<=(asQ R.ls).length/\(asQ R.ls).length<=4096*65544:=by
   have h1:=kI R.ls hlens N;rw [Vj (by rw [HN.out];exact Lt _)] at h1;refine ⟨?_,At h1 (WZ _ hNz)⟩;rw [<-HAT.out];have e:asQ R.ls=asQ (R.ls.take K)++asQ (R.ls.drop K):=by
    unfold asQ;rw [<-XP,<-VG,WW]
   rw [e,laA];exact Nat.le_add_right _ _
  have cb:=ug w2 B r1 nm hR2.disk;rw [hread,hs1.d] at cb;dsimp only at cb;clear hread hVE hVC hfull;obtain ⟨RLn,hRLn⟩:∃x,(asQ R.ls).length=x:=⟨_,rfl⟩;obtain ⟨ON,hON⟩:∃x,ii r.p nm=x:=⟨_,rfl⟩;rw [hRLn] at hRL cb;rw [hON] at hNl⊢;have HRLn:=Hd hRLn;have HON:=Hd hON;clear hRLn hON;go_wp2_with fail;refine cb.mono ?_;clear cb;rintro e w3 ⟨a3,n3,c3,rfl,hn3,-,hb3⟩;have hR3:=hR2.old hb3;have hbw3:=ae hb2 hb3;clear hR2 hl2;have cb:=xR w3 B r1 nm (A:Int) hR3.disk (At hB (At s1z hbw3.size));rw [<-HVC.out,hs1.d] at cb;have i1:IntKind.i64.wrap ((n3:Int)-(A:Int))=((n3-A:Nat):Int):=(by rw [VZ];omega);have i2:IntKind.i64.wrap ((ON:Int)+((n3-A:Nat):Int))=((ON+(n3-A):Nat):Int):=(by rw [VZ];omega);have HN3:=Hd hn3;clear hn3;go_wp2_with fail;refine cb.mono ?_;clear cb;rintro e w4 ⟨rfl,r2,hp2,hs2⟩;have hs12:de B w r w4 r2:=(hs1.trans (de.old hs1.at' hbw3)).trans hs2;by_cases hE2:(dS r.p nm m).2=0;rotate_left 1
  .have hres:iM B w r nm m (.returned (.tuple #[.pointer none,.int .i64 0,.int .i64 (dS r.p nm m).2])) w4:=by
    have e1:kV r.p nm m=(dS r.p nm m).2:=(by unfold kV;rw [if_neg (by rw [hHE.out];decide),HVE.out,if_neg dcA,if_pos hE2]);refine ⟨r2,by rw [hp2];unfold sg;rw [if_neg (by rw [hHE.out];decide),HVE.out,if_neg dcA,if_pos hE2],hs12,.inl ⟨by rw [e1];exact hE2,by rw [e1]⟩⟩
   have HRES:=Hd hres;have te2:((dS r.p nm m).2==0)=false:=(by simpa using hE2);have te3:((dS r.p nm m).2 !=0)=true:=(by simpa using hE2);clear hres hE2 hp2;generalize (dS r.p nm m).2=E2 at*;go_wp2_with fail;rw [HS.out];go_ret3;exact HRES.out
  have HE2:=Hd hE2;rw [hE2];clear hE2;have hone2:tK r2.p nm:=(by rw [hp2,HVC.out,hp1];exact Ft _ (BM hone));have cb:=rj w4 B r2 nm hs12.at' (At hB hs12.turn.size) hs hone2;rw [hs12.d] at cb;go_wp2_with fail;refine cb.mono ?_;clear cb;rintro e w5 ⟨r3,hp3,hs3,hcase⟩;have hs13:=hs12.trans hs3;rw [hp2] at hp3 hcase;rcases hcase with ⟨hE3,rfl⟩|⟨hE3,R2,rfl,hRDL2,hnm2,hls2,hsure2,hq2⟩
  .have hres:iM B w r nm m (.returned (.tuple #[.pointer none,.int .i64 0,.int .i64 (dH (dS r.p nm m).1 nm)])) w5:=by
    have e1:kV r.p nm m=dH (dS r.p nm m).1 nm:=(by unfold kV;rw [if_neg (by rw [hHE.out];decide),HVE.out,if_neg dcA,if_neg (by rw [HE2.out];decide)]);refine ⟨r3,by rw [hp3];unfold sg;rw [if_neg (by rw [hHE.out];decide),HVE.out,if_neg dcA,if_neg (by rw [HE2.out];decide)],hs13,.inl ⟨by rw [e1];exact hE3,by rw [e1]⟩⟩
   have HRES:=Hd hres;have te3:(dH (dS r.p nm m).1 nm !=0)=true:=(by simpa using hE3);clear hres hE3 hp3;generalize dH (dS r.p nm m).1 nm=E3 at*;go_wp2_with fail;rw [HS.out];go_ret3;exact HRES.out
  have hls3:R2.ls=R.ls.take K:=by
   have:=rs hHE.out K (by
    have e:=HE2.out;rw [HVC.out,hp1,<-HAT.out,HLS.out] at e;exact e)
   rw [hls2,HVC.out,hp1,<-HAT.out,HLS.out,this]
  have hds3:=hds.old hb3;have hds4:cz w4 w1.heap.size a2 c2 ds:=hds3.keepB fun x hx=>hs2.turn.block x (hds3.lt hx).2 fun hf=>by
   have:=hsp x (.inl hf);have:=(hdl x hx).1;omega
  have hds5:cz w5 w1.heap.size a2 c2 ds:=hds4.keepB fun x hx=>hs3.turn.block x (hds4.lt hx).2 fun hf=>by
   have h1:=(hdl x hx);have h2:=hb3.size;rcases hs2.foot' x hf with q|q
   .have:=hsp x (.inl q);omega
   .omega
  have z2:=hb2.size;have z3:=hb3.size;have z4:=hs2.turn.size;have z5:=hs3.turn.size;have hSE:∀x,ig r3 x\/jE R2 x->x<w1.heap.size\/w2.heap.size<=x:=fun x hx=>by
   rcases hx with hx|hx
   .rcases hs3.foot' x hx with q|q
    .rcases hs2.foot' x q with q|q
     .exact .inl (hsp x (.inl q))
     .exact .inr oA
    .exact .inr oA
   .have:=hq2 x hx;exact .inr oA
  have hmaW:ah w5 ma m:=hma w5 hs13.turn;have hnm3:R2.nm=nm:=hnm2;have hres:∀W V,RVL W B r3 V/\(∀x,jE V.R x\/mf V x->w.heap.size<=x)->Below w5.heap.size w5 W->V.m=m->V.ds=ds->V.R=R2->V.down=false->iM B w r nm m (.returned (.tuple #[.pointer (some ⟨V.v,0,none⟩),.int .i64 ((ON+(n3-A):Nat):Int),.int .i64 0])) W:=by
   intro W V hV hbW e1 e2 e3 e4;have q1:kV r.p nm m=0:=(by unfold kV;rw [if_neg (by rw [hHE.out];decide),HVE.out,if_neg dcA,if_neg (by rw [HE2.out];decide)];exact hE3);have q2:sg r.p nm m=fU (dS r.p nm m).1 nm:=(by unfold sg;rw [if_neg (by rw [hHE.out];decide),HVE.out,if_neg dcA,if_neg (by rw [HE2.out];decide)]);have q3:qB r.p nm m=ON+(n3-A):=(by unfold qB;rw [HVE.out,if_neg dcA,HON.out,HAV.out,<-HLS.out,HRLn.out,HN3.out]);refine ⟨r3,by rw [hp3,q2],hs13.trans (de.old hs13.at' hbW),.inr ⟨q1,V,by rw [q3],hV.1,e1,?_,?_,by rw [e3];exact hnm3,e4,hV.2⟩⟩
   .unfold kC.l;rw [e2];exact HVL.out
   .rw [e3,hls3];unfold qH;rw [HKL.out,<-HLS.out]
  have HRES:=Hd hres;have HQ2:=Hd hq2;clear hres hq hma1 hp3 hs3 hs2 hE3 hls2 hp2;have hq:∀x,jE R2 x->w.heap.size<=x:=fun x hx=>(by have:=HQ2.out x hx;omega);have HN2:=Hd (show R2.ls.length=K by rw [hls3,ltA,HN.out];omega);clear hls3;go_wp2_with (at_builtin;refine al rfl _ _ 22 rfl eF rfl (Own.nil w5 w5.heap.size 5 1) rfl hmaW (by rw [lmA,HML.out,Vk]) (cO _) mxA oA (Lt _) ?_);intro a5 c5 W5 ho5 hg5;have hb5:Below w5.heap.size w5 W5:=(Own.nil w5 w5.heap.size 5 1).grown (AT _ _) (Lt _) hg5 (Lt _);have ho6:Own W5 w5.heap.size 5 1 a5 m.length c5 (m.map bv):=(by rw [HML.out];simpa using ho5);have hmk:=uf (w0:=w) hRDL2 hB s1z hSE hds5 (fun x hx=>(hdl x hx).2) oA oA hq ho6 hb5 (by rw [HML.out];exact hmz) (by rw [HK.out,HN2.out];exact Lt _);clear ho5 hg5;go_wp2_with fail;rw [HS.out];go_ret3;rw [show kp ⟨W5.heap.size,a5,c5,m,R2,a2,c2,ds,false⟩= #[.pointer (some ⟨R2.l,0,none⟩),.slice a5 mn c5,.slice a2 K c2,.bool false] by unfold kp;dsimp only;rw [HML.out,HK.out]] at hmk;exact HRES.out _ ⟨W5.heap.size,a5,c5,m,R2,a2,c2,ds,false⟩ hmk (hb5.alloc hb5.size _) rfl rfl rfl rfl
end
section
open Go.ChangeShapes Go.WideShapes Go.ChangeAt Go.RowKit
instance:Inhabited ao:=⟨jY⟩
section
variable {H:Type} {enc:TypeId×Value->H} {w:World}
def DA (w:World) (a:Option Addr) (n c:Nat) (l:List (ao×aW)):Prop:=fB w a l/\l.length=n/\n<=c/\c<=maxLen
theorem Ad {v:Value} (h:qz enc prog w 23 [v]):∃a n c l,v= .slice a n c/\DA w a n c l:=by
 obtain ⟨a,len,cap,rfl,h1,h2,h3,h4,h5⟩:=h.slice underlying23;obtain ⟨l,hl,hr,hok⟩:=tC (g:=fun x:ao×aW=>ak x.1 x.2) (Ok:=fun x:ao×aW=>dC w x.1 x.2) (fun _=>rfl) (show 0<15 by omega) (show Tryz.prog.cellsOf 40=15 by kernel_rfl)
  (fun cs hc hlen=>by obtain ⟨p,g,e,ha⟩:=CZ hlen hc;exact ⟨(p,g),e,ha⟩) h3 h5
 exact ⟨a,len,cap,l,rfl,⟨hr,hok⟩,hl,h1,h2⟩
end
end
section
open Go.RowKit
def nmF:bz:=⟨#[97]⟩
def Pi (p:aM) (k:Nat):Prop:=∃b s,p=ee nmF b s/\b.length<=k
theorem Ae {p:ao} (h:mA p=false):(bZ p).length<=25248:=by
 have h1:=Fy p;have h2:=yw h;have h3:=GJ p.act;omega
theorem uq (m:List UInt8) (l:List ao) (x:ao):(bj (iG m l x)).length=(bZ x).length+48:=by
 rw [bM,iV];omega
theorem Ff {p:aM} {V:aV} {x:ao} {k:Nat} (hp:Pi p (k*25300)) (hnm:V.R.nm=nmF) (hd:V.down=false) (hg:mA x=false) (hl:V.R.ls.length<=k) (hk:k<=20):
  Pi (xS p V x) ((k+1)*25300)/\mo p V x=false/\(mm p V x).length<=k+1:=by
 obtain ⟨b,s,rfl,hb⟩:=hp;have hz:=Ae hg;by_cases hok:jF V x=true
 .have hm:il x=true/\bp V.l x=true:=(by unfold jF at hok;simpa using hok);obtain ⟨h1,h2,h3,h4⟩:=BO (nm:=nmF) (b:=b) (s:=s) hnm hd hm.1 hm.2 oA oA oA;refine ⟨⟨_,_,h2,?_⟩,h4,by rw [h3,laA];exact Nat.succ_le_succ hl⟩;rw [laA,uq];omega
 .have hok:jF V x=false:=(by simpa using hok);have hd':¬V.down=true:=(by simp [hd]);have hb2:b.length<=(k+1)*25300:=At hb (WZ _ (XB k));refine ⟨⟨b,s,?_,hb2⟩,?_,?_⟩
  .unfold xS;rw [if_neg hd',if_pos hok]
  .unfold mo;rw [if_neg hd',if_pos hok]
  .unfold mm;rw [if_neg hd',if_pos hok];omega
theorem uz (nm:bz) (b:List UInt8) (s:Nat):dH (ee nm b s) nm=0/\∃b',fU (ee nm b s) nm=ee nm b' b'.length:=by
 have hM:bS (ee nm b s) nm=(ee nm b s,0):=by
  unfold bS;rw [kK,if_neg skA]
 have hC:∃b' s',aY (ee nm b s) nm=(ee nm b' s',0):=by
  unfold aY;by_cases h0:(cW (ee nm b s) nm).2.length=0
  .rw [if_pos h0,hM];exact ⟨b,s,rfl⟩
  .rw [if_neg h0,hM,kK];refine ⟨_,_,wu ?_⟩;exact Nat.sub_le _ _
 obtain ⟨b',s',hC⟩:=hC;have hS:dD (ee nm b s) nm=(ee nm b' b'.length,0):=by
  unfold dD;rw [hC];exact ov
 have hE:dH (ee nm b s) nm=0:=by
  unfold dH;rw [hM,hC,hS];rfl
 refine ⟨hE,b',?_⟩;unfold fU;rw [hM,hC,hS];rfl
theorem xZ (nm:bz) (b:List UInt8) (s:Nat) (m:List UInt8):kV (ee nm b s) nm m=0:=by
 obtain ⟨h1,b',h2⟩:=uz nm b s;unfold kV;rw [if_neg (by rw [h1];decide)];by_cases hf:ej (ee nm b s) nm m=true
 .rw [if_pos hf]
 .rw [if_neg hf];have hr:=(kJ h1).1;rw [h2,kK] at hr;have hb':b'=asQ (cW (ee nm b s) nm).1:=(Prod.mk.inj hr).1;have hle:ie (ee nm b s) nm m<=b'.length:=by
   unfold ie;rw [hb'];generalize (cW (ee nm b s) nm).1=ls;generalize (nA (ee nm b s) nm m).length=K;have e:asQ ls=asQ (ls.take K)++asQ (ls.drop K):=by
    unfold asQ;rw [<-XP,<-VG,WW]
   rw [e,laA];exact Nat.le_add_right _ _
  have hc:dS (ee nm b s) nm m=(ee nm (b'.take (ie (ee nm b s) nm m)) (ie (ee nm b s) nm m),0):=by
   unfold dS;rw [h2];exact wu hle
  rw [hc,if_neg skA];exact (uz nm _ _).1
theorem yj:ew wk0 nmF=(ee nmF [] 0,0):=by
 unfold ew;rw [if_neg (by simp [wk0]),if_neg dcA,if_neg (by simp [eW,wk0]),if_neg (by simp [wk0])];rfl
theorem qb (b:List UInt8) (h:b.length<=1048576):bt (ee nmF [] 0) nmF b=(ee nmF b 0,0):=by
 have:=rv (nm:=nmF) (b:=[]) (s:=0) (l:=b) (by simpa using h);simpa using this
theorem EA (b:List UInt8) (s:Nat):tK (ee nmF b s) nmF:=fun f hf=>by
 simp [ee] at hf;rw [hf]
def fp (d:Nat):di:={d:=d,la:=none,lc:=0,fs:=[],down:=false,armed:=false,left:=0,pa:=none,pc:=0,plan:=[]}
theorem zI (w:World):db (w.alloc (.cells (cJ (fp w.heap.size)) 49)) w.heap.size (fp w.heap.size):=by
 refine ⟨Lt _,Blk.new _ _ _,Own.nil _ _ _ _,fun f hf=>by simp [fp] at hf,Own.nil _ _ _ _,?_⟩;exact ⟨List.nodup_nil,fun f hf=>by simp [di.p,fp] at hf,fun f hf=>by simp [di.p,fp] at hf,fun f hf=>by simp [di.p,fp] at hf,by simp [di.p,fp],by simp [di.p,fp]⟩
theorem BS (d:Nat):(fp d).p=wk0:=rfl
theorem ER {p:aM} {b:List UInt8} {s:Nat} (h:FL p (ee nmF b s)):p=ee nmF b s:=Ce h (by simp [ee])
end
section
open Go.RowKit Go.Maps
structure yP (w:World) (B:Nat) (a:Option Addr) (n c:Nat) (ds:List (ao×aW)):Prop where
 row:Own w B 40 15 a n c (dv ds)
 len:ds.length=n
theorem lw {P:Program} {w:World} {ops:Array Oper} {rest:List Oper} {o:Oper} {a:Act} {Q:Exit->Act->World->Prop} (hgd:o.guard=none) (s x:Operand) (t:TypeId) (ho:o.op= .call {callee:= .builtin .append,args:= #[s,x],argTypes:= #[t,t]})
  {e:TypeId} {size bytes:Nat} (hT:bu P t e size bytes) {B:Nat} {sa:Option Addr} {n sc:Nat} {xs:List Value} (hs:a.eval s= .slice sa n sc) (hown:Own w B e size sa n sc xs)
  {xa:Option Addr} {m xc:Nat} {news:List Value} (hx:a.eval x= .slice xa m xc) (hrow:aw w xa news) (hl:news.length=m*size) (hm:0<m) (h1:∀u∈news,u.oneCell'=true)
  (h63:n+m<=maxLen) (hbytes:(n+m)*bytes<=140737488355328) (hbase:B<=w.heap.size)
  (h:∀b c' w',Own w' B e size (some ⟨b,0,none⟩) (n+m) c' (xs++news)->w.grownBy w' (Value.slice sa n sc).ownBlock->((∃ad,sa=some ad/\b=ad.block)\/w.heap.size<=b)->wpList P ops Q rest (a.put o.dst (.slice (some ⟨b,0,none⟩) (n+m) c')) w'):
  wpList P ops Q (o::rest) a w:=
 XO hgd fun _ hK=>fW s x t ho hT hs hown hx hrow hl hm h1 h63 hbytes hbase fun b c' w' q1 q2 q3=>hK _ _ (h b c' w' q1 q2 q3)
theorem zT {W W2:World} {B:Nat} {r:aF} {V:aV} {o:Obj} {sa la:Option Addr} {sn sc ln lc b:Nat} {us:List Value} (hV:VL W B r V) (hl:Own W B 40 15 la ln lc us)
  (hA:∀x,jU r V x->¬atB sa x/\¬atB la x) (hB:∀x,atB sa x->¬atB la x) (hg:(W.alloc o).grownBy W2 (Value.slice sa sn sc).ownBlock) (hbw:(∃ad,sa=some ad/\b=ad.block)\/(W.alloc o).heap.size<=b):
  VL W2 B r V/\Own W2 B 40 15 la ln lc us/\(∀x,jU r V x->¬atB (some ⟨b,0,none⟩) x/\¬atB la x)/\(∀x,atB (some ⟨b,0,none⟩) x->¬atB la x):=by
 have keep:∀y,y<W.heap.size->¬atB sa y->W2.heap[y]? =W.heap[y]? :=fun y hy hn=>by
  refine (hg.block y soA fun e=> ?_).trans (Vi _ _ _ hy);cases ha:sa with
  |none=>rw [ha] at e;cases e
  |some ad=>
   rw [ha] at e;simp [Value.ownBlock] at e;exact hn ⟨ad,ha,e⟩
 have hbn:∀y,y<W.heap.size->atB (some ⟨b,0,none⟩) y->atB sa y:=fun y hy ⟨ad,e,hyb⟩=>by
  cases e;rcases hbw with ⟨ad,e,hb⟩|hb
  .exact ⟨ad,e,hyb.trans hb⟩
  .simp at hb;have:y=b:=hyb;omega
 refine ⟨hV.keep fun x hx=>keep x (hV.lt hx).2 (hA x hx).1,hl.keepAt fun ad e=>keep _ (hl.block_lt e).2.1 fun h=>hB _ h ⟨ad,e,rfl⟩,fun x hx=>⟨fun h=>(hA x hx).1 (hbn x (hV.lt hx).2 h),(hA x hx).2⟩,fun x hx h=> ?_⟩;obtain ⟨ad,e,hxb⟩:=h;have hlt:=(hl.block_lt e).2.1;exact hB x (hbn x (by rw [hxb];exact hlt) hx) ⟨ad,e,hxb⟩
end
end Go.Proofs.YtioigihakjlopaaGreat
