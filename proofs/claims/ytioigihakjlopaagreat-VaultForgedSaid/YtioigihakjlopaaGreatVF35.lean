import Derived.Test.YtioigihakjlopaaGreatVF33
namespace Go.Proofs.YtioigihakjlopaaGreat
open Go.Proofs.Tryz
set_option linter.unusedVariables false
set_option linter.unusedSimpArgs false
set_option maxHeartbeats 16000000
set_option maxRecDepth 100000
section
open Go.RowKit Go.Shelf Go.Maps
attribute [local go_sem] Oper.semAt_some
theorem oV {F0:Fence} {n:Nat} {P:Program} {ops:Array Oper} {Q:Exit->Act->World->Prop} {rest:List Oper} {a:Act} {W:World} (F:World->Prop) (hF:F W) (h:∀W0,F W0->wpListIn F0 n P ops Q rest a W0):wpListIn F0 n P ops Q rest a W:=h W hF
theorem lj:∀ls:List (List UInt8),(∀x∈ls,x.length<=65536)->(asQ ls).length<=ls.length*65544
 | [],_=>by simp [asQ]
 |x::r,h=>by
  have h1:=lj r fun y hy=>h y (by simp [hy]);have h2:=h x skA;rw [show asQ (x::r)=bj x++asQ r by simp [asQ],laA,bM,VT,Ws];omega
theorem ue (m:List UInt8):∀(r:List (List UInt8)) (l:List ao),∃t,fk m l r=l++t
 | [],l=>⟨[],by simp [fk]⟩
 |x::r,l=>by
  rw [fk];split
  .obtain ⟨t,ht⟩:=ue m r (l++ [(br m l x).1]);exact ⟨(br m l x).1::t,by rw [ht];simp⟩
  .exact ⟨[],skA⟩
structure JR (T:Nat) (x:ao) (hx:aW) (W1 W:World):Prop where
 blk:Blk W T (ak x hx).toArray 40
 below:Below W1.heap.size W1 W
def yK (B:Nat) (w:World) (r:aF) (nm:bz) (m:List UInt8) (e:Ending) (w':World):Prop:=
 ∃r',r'.p=sg r.p nm m/\ct B w r w' r'/\
  ((kV r.p nm m≠0/\e= .returned (.tuple #[.pointer none,.int .i64 0,.int .i64 (kV r.p nm m)]))\/
   (kV r.p nm m=0/\∃V,e= .returned (.tuple #[.pointer (some ⟨V.v,0,none⟩),.int .i64 (qB r.p nm m:Int),.int .i64 0])/\VL w' B r' V/\V.m=m/\V.l=nA r.p nm m/\V.R.ls=qH r.p nm m/\V.R.nm=nm/\V.down=false/\∀x,dJ V.R x\/dW V x->w.heap.size<=x))
theorem lV (w:World) (B:Nat) (r:aF) (nm:bz) (h:aG w B r) (hB:B<=w.heap.size) (hs:nm.size<=maxLen) (ma:Option Addr) (mn mc:Nat) (m:List UInt8) (hma:ah w ma m) (hml:m.length=mn) (hmz:mn<=1000000) (hmf:m≠ []->∀ad,ma=some ad->¬eM r ad.block):
  Calls prog 11 #[.pointer (some ⟨r.d,0,none⟩),.string nm,.slice ma mn mc] w (yK B w r nm m):=by
 obtain ⟨S,hS⟩:=Le (yK B w r nm m);rw [<-hS];have HS:=Hd hS;clear hS;have HML:=Hd hml;clear hml;refine (callsIn_wide (n:=3)).1 ?_;have h1:1<=3:=oA;refine callsIn_of_wp_marks func11 rfl trivial (wpIn_mono ?_ uH) rfl;refine wpIn_wide.2 ?_;simp only [ntmps11,List.size_toArray,VT,Wy,Nat.reduceAdd,Nat.reduceSub,Array.replicate_succ,Array.replicate_zero,List.push_toArray,List.append_toArray,Wf,XN];go_upto_region 1 with (fail);obtain ⟨P,hP⟩:=Le w.heap.size;rw [<-hP];refine af (fun W=>Blk W P #[.pointer none] 28/\Below w.heap.size w W) ⟨by rw [hP];exact Blk.new _ _ _,cL⟩ ?_;rintro W1 ⟨bP,hb1⟩;have hPw:w.heap.size<=P:=VR hP.symm;clear hP;have hd1:=h.old hb1;go_step3;go_wp2_with fail;refine (uN W1 B r nm hd1 (At hB hb1.size) hs).mono ?_;rintro e W2 ⟨r2,hp2,hs2,hcase⟩;have hPf:¬eM r P:=fun hf=>(by have:=(h.lt hf).2;omega);have bP2:Blk W2 P #[.pointer none] 28:=(hs2.turn.block P bP.lt hPf).trans bP;have hs02:ct B w r W2 r2:=⟨(aJ.of_below (F:=eM r) hb1).trans hs2.turn fun _ q=> .inl q,hs2.at',fun x hx=>by
  rcases hs2.foot' x hx with q|q
  .exact .inl q
  .exact .inr (At hb1.size q),hs2.d⟩
 rcases hcase with ⟨he,rfl⟩|⟨he,R,rfl,hdl,hRn,hRl,hRs,hRf⟩
 .have e1:kV r.p nm m=dH r.p nm:=(by unfold kV;rw [if_pos he]);have e2:sg r.p nm m=fU r.p nm:=(by unfold sg;rw [if_pos he]);have HE:=Hd e1;have HD:=Hd e2;have te:(dH r.p nm !=0)=true:=(by simpa using he);generalize dH r.p nm=oe at*;have fP:=bP2.free;have cP:W2.cell? ⟨P,0,none⟩=some (.pointer none):=bP2.cell rfl;go_wp2_with fail;have cx:(W2.setCell ⟨P,0,none⟩ (.pointer none)).cell? ⟨P,0,none⟩=some (.pointer none):=(bP2.set 0 (.pointer none)).cell rfl;rw [WA];refine ⟨.tuple #[.pointer none,.int .i64 0,.int .i64 oe],?_,?_⟩
  .simp [results,Tryz.f11,go_sem,cx]
  .rw [HS.out];refine ⟨r2,by rw [hp2,HD.out],⟨hs02.turn.setCell (x:=⟨P,0,none⟩) (.inr hPw) _,hs02.at'.keep fun x hx=>VU W2 ⟨P,0,none⟩ x _ fun e=> ?_,hs02.foot',hs02.d⟩,.inl ⟨by rw [HE.out];exact he,by rw [HE.out]⟩⟩;subst e;rcases hs2.foot' _ hx with q|q
   .exact hPf q
   .have:=bP.lt;omega
 have hld:Hid (dH r.p nm=0):=Hd he;have HRL:=Hd hRl;have HRN:=Hd hRn;clear hRl hRn hRs he;have hzm:mn<=140737488351232:=oA;have hma2:ah W2 ma m:=by
  intro i hi;obtain ⟨b,o,e,hc⟩:=hma i hi;refine ⟨b,o,e,?_⟩;have hbl:=VV w _ hc;have hne:m≠ []:=fun e=>(by rw [e] at hi;simp at hi);rw [VJ (a:=⟨b,o+i,none⟩) (hs02.turn.block b hbl (by have:=hmf hne _ e;exact this))];exact hc
 have hmm:= @run_makeMap prog;have cm:=js ma mn mc m W2 hma2 HML.out hzm;go_wp2_with fail;refine cm.mono ?_;clear cm;rintro e W3 ⟨ka,kc,rfl,hown3,hb3⟩;have bP3:=bP2.old hb3;have fP:=bP3.free;have bP3a:∀o1 o2 o3,Blk (((W3.alloc o1).alloc o2).alloc o3) P #[.pointer none] 28:=fun o1 o2 o3=>((bP3.alloc o1).alloc o2).alloc o3;have fP3:=fun o1 o2 o3=>(bP3a o1 o2 o3).free;have cP:∀o1 o2 o3,(((W3.alloc o1).alloc o2).alloc o3).cell? ⟨P,0,none⟩=some (.pointer none):=fun o1 o2 o3=>(bP3a o1 o2 o3).cell rfl;go_upto_region 5 with (fail);have hdl3:=hdl.old hb3;have hBW3:B<=W3.heap.size:=(by have:=hb1.size;have:=hs2.turn.size;have:=hb3.size;omega);have hka:∀ad,ka=some ad->W2.heap.size<=ad.block:=fun ad e=>(hown3.block_lt e).1;have hvl:=BR hdl3 hBW3 HML.out hmz hown3 (by have:=hb1.size;have:=hs2.turn.size;omega) (fun ad e hf=>by have:=hka ad e;have:=(hdl.lt hf).2;omega);have hPl:=bP.lt;have hsz2:=hs2.turn.size;have hsz3:=hb3.size;have hsz1:=hb1.size;have hnR:∀x,dW (ix (W3.heap.size+1+1) ka kc m R W3.heap.size (W3.heap.size+1)) x->W2.heap.size<=x:=by
  intro x hx;rcases hx with rfl|⟨ad,ha,rfl⟩|⟨ad,ha,rfl⟩|⟨y,hy,hi⟩|rfl|rfl|⟨g,hg,rfl⟩|⟨y,hy,rfl⟩
  .simp [ix];omega
  .exact hka ad ha
  .cases ha
  .cases hy
  .simp [ix];omega
  .simp [ix];omega
  .exact absurd hg (Xg _)
  .cases hy
 have hnP:∀x,jU r2 (ix (W3.heap.size+1+1) ka kc m R W3.heap.size (W3.heap.size+1)) x->(eM r x\/w.heap.size<=x)/\x≠P:=by
  intro x hx;rcases hx with hx|hx|hx
  .refine ⟨hs02.foot' x hx,?_⟩;rintro rfl;rcases hs2.foot' _ hx with q|q
   .exact hPf q
   .omega
  .have:=hRf x hx;exact ⟨.inr oA,oA⟩
  .have:=hnR x hx;exact ⟨.inr oA,oA⟩
 have hbw3:aJ (eM r) w W3:=hs02.turn.trans (aJ.of_below (F:=eM r) hb3) fun _ q=> .inl q;have hB4:Below W3.heap.size W3 (((W3.alloc (.map #[] 0)).alloc (.map #[] 0)).alloc (.cells #[.slice ka mn kc,.pointer (some ⟨R.l,0,none⟩),.slice none 0 0,.map (some W3.heap.size),.map (some (W3.heap.size+1)),.bool false] 93)):=(((AT _ _).alloc (Lt _) _).alloc skA _).alloc soA _;have hz4:(((W3.alloc (.map #[] 0)).alloc (.map #[] 0)).alloc (.cells #[.slice ka mn kc,.pointer (some ⟨R.l,0,none⟩),.slice none 0 0,.map (some W3.heap.size),.map (some (W3.heap.size+1)),.bool false] 93)).heap.size=W3.heap.size+3:=skA;have bP4:=bP3a (.map #[] 0) (.map #[] 0) (.cells #[.slice ka mn kc,.pointer (some ⟨R.l,0,none⟩),.slice none 0 0,.map (some W3.heap.size),.map (some (W3.heap.size+1)),.bool false] 93);generalize ((W3.alloc (.map #[] 0)).alloc (.map #[] 0)).alloc (.cells #[.slice ka mn kc,.pointer (some ⟨R.l,0,none⟩),.slice none 0 0,.map (some W3.heap.size),.map (some (W3.heap.size+1)),.bool false] 93)=W4 at*;generalize hV:ix (W3.heap.size+1+1) ka kc m R W3.heap.size (W3.heap.size+1)=V at*;have eV:V.v=W3.heap.size+1+1/\V.R=R/\V.m=m/\V.down=false/\V.l=[]/\V.mg=W3.heap.size/\V.mb=W3.heap.size+1:=(by rw [<-hV];exact ⟨rfl,rfl,rfl,rfl,rfl,rfl,rfl⟩);rw [show (.pointer (some ⟨W3.heap.size+1+1,0,none⟩):Value)= .pointer (some ⟨V.v,0,none⟩) by rw [eV.1]];refine af (fun W=>VL W B r2 V/\Blk W P #[.pointer (some ⟨V.v,0,none⟩)] 28/\aJ (eM r) w W/\W4.heap.size<=W.heap.size) ⟨hvl.keep fun x hx=>VU W4 ⟨P,0,none⟩ x _ (hnP x hx).2,bP4.set 0 _,(hbw3.trans (aJ.of_below (F:=eM r) hB4) fun _ q=> .inl q).setCell (x:=⟨P,0,none⟩) (.inr hPw) _,by simp [World.setCell]⟩ ?_;rintro W5 ⟨hvl5,bP5,ht5,hz5⟩;clear hvl hb3 hown3 bP3 bP3a fP3 cP fP bP4 hB4 hdl3 hbw3;go_upto_region 6 with (fail);obtain ⟨A,hA⟩:=Le W5.heap.size;obtain ⟨H,hH⟩:=Le (W5.heap.size+1);rw [<-hH,<-hA];refine af (fun W=>Blk W A #[.int .i64 0] 3/\Blk W H #[.bool true] 4/\Below W5.heap.size W5 W/\H<W.heap.size) ⟨by rw [hA];exact Blk.new2 _ _ _ _,by rw [hH];exact Blk.new2' _ _ _ _,cL,by rw [hH];simp⟩ ?_;rintro W6 ⟨bA,bH,hb6,hH6⟩;have hAl:=bA.lt;have heq:∀(fn:Fn) (first cap:Array Value) (w:World),(binOp .eql 95 (.func fn first cap) .nilFunc).run prog w= .ok (.bool false) w:=fun fn first cap w=>rfA;go_wp2_with fail;go_step3;go_wp2_with fail;refine (Fr W6 _).mono ?_;rintro e W7 ⟨rfl,hW7⟩;obtain ⟨X,hX⟩:=Le W6.heap.size
 have bX:Blk W7 X #[.pointer (some ⟨R.l,0,none⟩)] 86:=(by rw [hW7,hX];exact Blk.new _ _ _);have hb7:Below W6.heap.size W6 W7:=(by rw [hW7];exact (AT _ _).alloc (Lt _) _);have hX7:=bX.lt;rw [<-hX];have hlt5:∀x,jU r2 V x->x<W5.heap.size:=fun x hx=>(hvl5.lt hx).2;have hst:OpS B w r r2 R m P A H X W7.heap.size R.ls true 0 0 V W7:=⟨(hvl5.old hb6).old hb7,(bP5.old hb6).old hb7,(bA.old hb7),bH.old hb7,⟨eV.2.1,eV.2.2.1,eV.2.2.2.1⟩,
  ⟨((hvl5.old hb6).old hb7).disk.map.lt,((hvl5.old hb6).old hb7).vault.gm.lt,((hvl5.old hb6).old hb7).vault.bm.lt⟩,fun x hx=>(hnP x hx).1,fun x hx=>by have:=hnR x hx;omega,
  fun x hx=>by have q1:=hlt5 x hx;have q2:=(hnP x hx).2;have q3:=hb6.size;refine ⟨q2,?_,?_,?_⟩<;>omega,by rw [eV.2.2.2.2.1];rfl,Hd (by rw [eV.2.2.2.2.1];rfl),
  (ht5.trans (aJ.of_below (F:=eM r) hb6) fun _ q=> .inl q).trans (aJ.of_below (F:=eM r) hb7) fun _ q=> .inl q,Lt _,by have:=bP5.lt;have:=hb6.size;have:=hb7.size;omega,by have:=hb7.size;omega,by have:=hb7.size;omega,hX7⟩
 have cX:W7.cell? ⟨X,0,none⟩=some (.pointer (some ⟨R.l,0,none⟩)):=bX.cell rfl;have hAw:w.heap.size<=A/\w.heap.size<=H/\A≠P/\A≠H/\H≠P/\X≠A:=(by have:=bP5.lt;omega);have hR7:ld W7 B r2.d R:=(by have:=hst.vl.vault.log;rw [eV.2.1] at this;exact this);have hw7:w.heap.size<=W7.heap.size:=hst.turn.size;clear hX bA bH hb6 hH6 hA hH hvl5 bP5 ht5 hz5 hW7 hb7 hnP hnR hlt5 hAl;go_wp2_with fail;refine (wpIn_wide (n:=3)).1 ?_;refine ly rfl h1 (gf:=107) (lb:= #[.pointer (some ⟨X,0,none⟩)]) rfl trivial (enters_of func107 krA rfl)
  (CM 2 oA B r2.d R X W7 hR7 cX) ?hM (fun h h'=>h.trans h') (fun W l o o' hl _ _ _=>aq.putObj o' fun x hx=>by
   rcases hx with hx|hx
   .have:=(hR7.lt hx).2;omega
   .omega) (AT _ _) (fun _=>rfl)
  (fun pre W=>∃V,OpS B w r r2 R m P A H X W7.heap.size R.ls true pre.length pre.length V W)
  (fun c pre W=>c= .exit 0/\∃k,Hid (k<R.ls.length/\(fk m [] R.ls).length=k)/\∃V,OpS B w r r2 R m P A H X W7.heap.size R.ls false k k V W)
  (OpS.own B w r r2 R m P A H X W7.heap.size R.ls true hw7 List.length)
  (fun c s Y Z row hs hg hr=>⟨hs.1,by
   obtain ⟨-,k,hk,hv⟩:=hs;exact ⟨k,hk,OpS.own B w r r2 R m P A H X W7.heap.size R.ls false hw7 (fun _:Unit=>k) () Y Z row hv hg hr⟩⟩) ⟨V,hst⟩
  ?a1 ?assign ?body ?done ?stop
 case hM=>
  rintro ⟨pre,x⟩ Y Z row ⟨e,hx,a,c,e2,hb,hc⟩ hg hr;refine ⟨e,hx,a,c,e2,fun i hi=> ?_,hc⟩;obtain ⟨b1,o1,e3,hcl⟩:=hb i hi;exact ⟨b1,o1,e3,cell_kept hcl hg (fun r e=>(hr r e).2)⟩
 case assign=>
  intro l x W K hK;unfold wQ
  gi_wp2;exact hK
 case body=>
  rintro l pre ⟨i,v⟩ W ⟨V,hV⟩ ⟨ei,hi,a,c,ev,hb,hc⟩;dsimp only at ei hi ev hb hc;subst ev ei;have hi':pre.length<R.ls.length:=hi;have hlen6:R.ls[pre.length].length<=65536:=hR7.lens _ (VE hi');have hBW:B<=W.heap.size:=(by have:=hV.turn.size;omega);have cP:W.cell? ⟨P,0,none⟩=some (.pointer (some ⟨V.v,0,none⟩)):=hV.ptr.cell rfl;have cu:=vB W B r2.d V hV.vl.vault hBW a R.ls[pre.length].length c R.ls[pre.length] hb rfl hc hlen6
  gi_wp2_with (refine ⟨trivial,?_⟩;gi_at_call 50;refine (callsIn_wide.2 cu).mono ?_);intro e W1 hun;unfold GM at hun;have hdv:∀U:ao×Bool,∃x ok,U.1=x/\U.2=ok:=fun U=>⟨_,_,rfl,rfl⟩;obtain ⟨x,ok,hx1,hok⟩:=hdv (br V.m V.l R.ls[pre.length]);rw [hx1,hok] at hun;have HX:=Hd hx1;have HOK:=Hd hok;clear hx1 hok hdv;obtain ⟨hx,bl,rfl,hdo,hv1,ht1⟩:=hun;clear cu cP;have hW:=hV.only hv1 ⟨rfl,rfl⟩ hV.len hV.scan hV.turn.size;obtain ⟨T,hT⟩:=Le W1.heap.size;rw [aH]
  gi_wp2_with (refine kU rfl rfl 40 aZ (.tmp 14) _ rfl rfl rfl (Blk.new W1 bR 40) rfl (Lt 15) rfA ?_;rw [<-hT];refine oV (JR T x hx W1) ⟨?_,?_⟩ ?_)
  .rw [hT];exact (Blk.new W1 bR 40).setRow _
  .rw [hT];exact ag ((AT _ _).alloc (Lt _) _) (Lt _) _
  intro W2 hdn;obtain ⟨bT,hb2⟩:=hdn;have hTW:W1.heap.size<=T:=VR hT.symm;clear hT;have hW2:=hW.old hb2;have hkW:KeepsFrom W7.heap.size W W2:=(hV.keeps hv1.turn).trans (wJ hb2);have hkA:aq (fun y=>dJ R y\/y=X) W W2:=(hV.kpAt hv1.turn).trans (hW.kpOld hb2);cases ok with
  |false=>
   have hfail:=hV.failed hi' HOK.out;have hfin:=Hd (hW2.setWh (hAw.2.1) ⟨hAw.2.2.2.2.1,fun e=>hAw.2.2.2.1 e.symm⟩ false);have cH:W2.cell? ⟨H,0,none⟩=some (.bool true):=hW2.wh'.cell rfl;have fH:=hW2.wh'.free;have hkF:=Hd (hkW.trans ((KeepsOthers.setCell W2 ⟨H,0,none⟩ (.bool false)).from W7.heap.size));clear hkW hkA
   gi_wp2;exact ⟨hkF.out,rfl,pre.length,hfail,_,hfin.out⟩
  |true=>
   obtain ⟨hm,hf⟩:=AO HOK.out;rw [HX.out] at hm hf;have hnext:=hV.next hi' HX.out HOK.out;have hdo2:=hdo.old hb2;have hBW2:B<=W2.heap.size:=(by have:=hW2.turn.size;omega);have hda:∀W',aJ (dW {V with bl:=bl}) W2 W'->dC W' x hx:=fun W' ht=>by
    refine (hdo2.keepB fun y hy=>ht.block y (hdo2.innerLt hy).2.1 fun hv=> ?_).at;obtain ⟨q1,q2,cur,t,hbq,htq⟩:=hdo2.innerLt hy;rcases DJ hv with hv|⟨z,hz,rfl⟩
    .have:=(hV.vl.vault.ltR hv).2;omega
    .exact Blk.ne hbq (hW2.vl.vault.boxes z hz).2.2 (by rcases htq with rfl|rfl<;>decide) rfl
   have ck:=tQ W2 B r2.d {V with bl:=bl} hW2.vl.vault hBW2 x hx hda hm hf (by
    have e1:=hV.len;rw [V.len] at e1;show V.ds.length<V.R.ls.length;rw [hV.eqs.1];omega)
   rw [aH] at ck;have cP2:W2.cell? ⟨P,0,none⟩=some (.pointer (some ⟨V.v,0,none⟩)):=hW2.ptr.cell rfl;clear hda hm hf hdo2 hdo
   gi_wp2_with (first|refine lx rfl rfl 40 aZ (.tmp 14) rfl rfl bT rfl ?_|(refine ⟨trivial,?_⟩;gi_at_call 51;refine (callsIn_wide.2 ck).mono ?_));intro e W3 hkp;obtain ⟨V3,rfl,hv3,hl3,hmg3,hmb3⟩:=hkp;clear ck cP2 bT;have hW3:=hW2.only hv3 ⟨hmg3,hmb3⟩ (k':=pre.length+1) (by rw [hl3,laA];show V.l.length+1=_;rw [hV.len]) (by rw [hl3];exact hnext) hW2.turn.size;have hkW3:=hkW.trans (hW2.keeps hv3.turn);have hkA3:=hkA.trans (hW2.kpAt hv3.turn);have cA:W3.cell? ⟨A,0,none⟩=some (.int .i64 ((asQ (R.ls.take pre.length)).length:Int)):=hW3.at'.cell rfl;have fA:=hW3.at'.free;have erec:(asQ (R.ls.take (pre.length+1))).length=(asQ (R.ls.take pre.length)).length+(8+R.ls[pre.length].length):=by
    rw [VW hi',nG,laA,bM]
   have hfin:=Hd (hW3.setAt hAw.1 ⟨hAw.2.2.1,hAw.2.2.2.1⟩ (k':=pre.length+1) (v:=((asQ (R.ls.take pre.length)).length:Int)+(8+(R.ls[pre.length].length:Int))) (by rw [erec];push_cast;omega));have hbig:(asQ (R.ls.take pre.length)).length<=1000000000000:=by
    have q1:=lj (R.ls.take pre.length) (fun x hx=>hR7.lens x (List.mem_of_mem_take hx));have q2:=hR7.cnt;rw [ltA] at q1;have q3:min pre.length R.ls.length*65544<=4096*65544:=WZ _ oA;omega
   have hkF:=Hd (hkW3.trans ((KeepsOthers.setCell W3 ⟨A,0,none⟩ (.int .i64 (((asQ (R.ls.take pre.length)).length:Int)+(8+(R.ls[pre.length].length:Int))))).from W7.heap.size));have hkK:Hid (aq (fun y=>dJ R y\/y=X) W (W3.setCell ⟨A,0,none⟩ (.int .i64 (((asQ (R.ls.take pre.length)).length:Int)+(8+(R.ls[pre.length].length:Int)))))):=Hd (hkA3.trans ⟨by simp [World.setCell],fun y hy=>VU W3 ⟨A,0,none⟩ y _ (by
    rcases hy with hy|rfl
    .exact (hW3.sep y (.inr (.inl (by rw [hW3.eqs.1];exact hy)))).2.1
    .exact hAw.2.2.2.2.2)⟩)
   clear hkW hkA hkW3 hkA3 erec hnext hb hc;clear hX7;generalize hn1:(asQ (R.ls.take pre.length)).length=n1 at*;generalize hn2:R.ls[pre.length].length=n2 at*
   gi_wp2;refine ⟨hkF.out,hkK.out,V3,?_⟩;rw [laA];exact hfin.out
 case done=>
  rintro D ys W hD hlen ⟨V,hV⟩ hdf;rw [show ys.length=R.ls.length from hlen] at hV;have hl:V.l=nA r.p nm m:=by
   have q:=hV.scan.out;rw [List.drop_length,fk] at q;unfold nA;rw [<-HRL.out];exact q.symm
  have hfull:ej r.p nm m=true:=by
   unfold ej;rw [<-hl,hV.len,HRL.out];exact VO rfl
  have cH:W.cell? ⟨H,0,none⟩=some (.bool true):=hV.wh'.cell rfl;have cP:W.cell? ⟨P,0,none⟩=some (.pointer (some ⟨V.v,0,none⟩)):=hV.ptr.cell rfl;have fP:=hV.ptr.free;have hself:W.setCell ⟨P,0,none⟩ (.pointer (some ⟨V.v,0,none⟩))=W:=ko cP;go_wp2_with fail;rw [WA];have hV':=hV.grown hw7 (grownBy_putObj' W D (.deferred none)) (fun q e=>by cases e;exact ⟨hD,_,hdf,rfl⟩);refine ⟨skA,.inl ⟨_,_,rfl,run_takeDeferred hdf,?_⟩⟩;have cx:(W.putObj D (.deferred none)).cell? ⟨P,0,none⟩=some (.pointer (some ⟨V.v,0,none⟩)):=hV'.ptr.cell rfl;refine ⟨.tuple #[.pointer (some ⟨V.v,0,none⟩),.int .i64 (ii r.p nm:Int),.int .i64 0],?_,?_⟩
  .simp [results,Tryz.f11,go_sem,cx]
  .rw [HS.out];have ho:¬dH r.p nm≠0:=(by rw [hld.out];simp);refine ⟨r2,by rw [hp2];unfold sg;rw [if_neg ho,if_pos hfull],⟨hV'.turn,hV'.vl.disk,fun x hx=>hV'.new x (.inl hx),hs02.d⟩,.inr ⟨by unfold kV;rw [if_neg ho,if_pos hfull],V,by unfold qB;rw [if_pos hfull],hV'.vl,hV'.eqs.2.1,hl,?_,by rw [hV'.eqs.1];exact HRN.out,hV'.eqs.2.2,fun x hx=> ?_⟩⟩
   .rw [hV'.eqs.1];unfold qH;rw [<-hl,hV.len,<-HRL.out,List.take_length]
   .rcases hx with hx|hx
    .rw [hV'.eqs.1] at hx;have:=hRf x hx;omega
    .exact hV'.newR x hx
 case stop=>
  rintro D c pre W hD-⟨rfl,k,hk,V,hV⟩ hdf;have hl:V.l=nA r.p nm m:=by
   have q:=hV.scan.out;have q2:=hk.out.2;obtain ⟨t,ht⟩:=ue m (R.ls.drop k) V.l;rw [<-q] at ht;have q3:=WG List.length ht;rw [q2,laA,hV.len] at q3;have ht0:t=[]:=Vz oA;rw [ht0,Wq] at ht;unfold nA;rw [<-HRL.out];exact ht.symm
  have hfull:ej r.p nm m=false:=by
   unfold ej;rw [<-hl,hV.len,<-HRL.out];have:=hk.out.1;exact Vd oA
  refine wpIn_wide.2 ?_;have cH:W.cell? ⟨H,0,none⟩=some (.bool false):=hV.wh'.cell rfl;have hat:(asQ (R.ls.take k)).length=ie r.p nm m:=by
   unfold ie;rw [<-hl,hV.len,<-HRL.out]
  obtain ⟨bb,hbb⟩:=Le (asQ (cW r.p nm).1);have hrd:=(kJ hld.out).1;rw [<-hp2,<-hbb] at hrd;have cr:=sD W B r2 nm hV.vl.disk hs;rw [hs02.d,hrd] at cr;dsimp only at cr;have hT:=hV.toT hdf hat;have HVE:=Hd hV.eqs;have HBB:=Hd hbb;have HLK:=Hd hV.len;have HFF:=Hd hfull;have HHL:=Hd hl;have HRF:=Hd hRf;clear hV hat hfull hbb hl hRf;go_wp2_with fail;refine cr.mono ?_;clear cr;rintro e W8 ⟨ra,rn,rc,rfl,hrn,-,hb8⟩;have HRNN:=Hd hrn;have hT8:=hT.old hb8;clear hrn hT;have cA:W8.cell? ⟨A,0,none⟩=some (.int .i64 (ie r.p nm m:Int)):=hT8.at'.cell rfl;have cc:=CQ W8 B r2 nm (ie r.p nm m:Int) hT8.vl.disk hs;rw [hs02.d,hp2] at cc;obtain ⟨cE,hcE⟩:=Le ((jh (fU r.p nm) nm (ie r.p nm m:Int)).2);rw [<-hcE] at cc;have HCE:=Hd hcE;clear hcE;go_wp2_with fail;refine cc.mono ?_;clear cc;rintro e W9 ⟨rfl,r3,hp3,hs3⟩;have hT9:=hT8.step (ct.vault hs3 hT8.vl) (fun x hx=> .inl hx);have hd9:r3.d=r.d:=hs3.d.trans hs02.d;have hDw:w.heap.size<=D:=oA;clear hT8 cA;have failS:∀(W:World) (r4:aF) (E:Int),aG W B r4->aJ (eM r) w W->(∀x,eM r4 x->eM r x\/w.heap.size<=x)->r4.d=r.d->W.heap[D]? =some (.deferred (some []))->r4.p=sg r.p nm m->kV r.p nm m=E->E≠0->S (.returned (.tuple #[.pointer none,.int .i64 0,.int .i64 E])) (W.putObj D (.deferred none)):=fun W r4 E q1 q2 q3 q4 q5 q6 q7 q8=>by
   rw [HS.out];exact ⟨r4,q6,⟨q2.defer hDw _,q1.defer q5 _,q3,q4⟩,.inl ⟨by rw [q7];exact q8,by rw [q7]⟩⟩
  have ho:¬dH r.p nm≠0:=(by rw [hld.out];simp);have hff:¬ej r.p nm m=true:=(by rw [HFF.out];simp);have hcut:dS r.p nm m=jh (fU r.p nm) nm (ie r.p nm m:Int):=rfl;have HO:=Hd ho;have HF:=Hd hff;have HC:=Hd hcut;clear ho hff hcut;have HfS:=Hd failS;clear failS;have hnPD:∀{W:World} {V:aV} {r4:aF},OpT B w r r4 P A D (ie r.p nm m) V W->D≠P:=fun {W V r4} hT e=>by
   have hb:W.heap[P]? =_:=hT.ptr;rw [<-e,hT.dfr] at hb;cases hb
  by_cases hce:cE=0;rotate_left 1
  .have te2:(cE !=0)=true:=(by simpa using hce);have cP9:W9.cell? ⟨P,0,none⟩=some (.pointer (some ⟨V.v,0,none⟩)):=hT9.ptr.cell rfl;have fP9:=hT9.ptr.free;have hDP:=hnPD hT9;have hdf9:(W9.setCell ⟨P,0,none⟩ (.pointer none)).heap[D]? =some (.deferred (some [])):=(VU W9 ⟨P,0,none⟩ D _ hDP).trans hT9.dfr;have hfin:=Hd (HfS.out (W9.setCell ⟨P,0,none⟩ (.pointer none)) r3 cE (hT9.vl.disk.keep fun x hx=>VU W9 ⟨P,0,none⟩ x _ (hT9.sep x (.inl hx)).1) (hT9.turn.setCell (x:=⟨P,0,none⟩) (.inr hPw) _) (fun x hx=>hT9.new x (.inl hx)) hd9 hdf9
    (by unfold sg;rw [if_neg HO.out,if_neg HF.out,HC.out,if_pos (by rw [<-HCE.out];exact hce),hp3]) (by unfold kV;rw [if_neg HO.out,if_neg HF.out,HC.out,if_pos (by rw [<-HCE.out];exact hce),HCE.out]) hce)
   have cx:((W9.setCell ⟨P,0,none⟩ (.pointer none)).putObj D (.deferred none)).cell? ⟨P,0,none⟩=some (.pointer none):=(VJ (a:=⟨P,0,none⟩) (World.putObj_heap_other (Vf hDP))).trans ((hT9.ptr.set 0 (.pointer none)).cell rfl);go_wp2_with fail;rw [WA];refine ⟨skA,.inl ⟨_,_,rfl,run_takeDeferred hdf9,?_⟩⟩;refine ⟨.tuple #[.pointer none,.int .i64 0,.int .i64 cE],?_,hfin.out⟩;simp [results,Tryz.f11,go_sem,cx]
  .subst hce;have te2:((0:Int) !=0)=false:=rfl;go_upto_region 21 with fail;have hT9d:=hT9.old (AT _ _).drew;have hBW9:B<=W9.drew.heap.size:=(by have:=hT9d.turn.size;omega);have co:=uN W9.drew B r3 nm hT9d.vl.disk hBW9 hs;rw [hd9] at co;have L0:∀W,aq (fun x=>x=P) W9.drew W->W.cell? ⟨P,0,none⟩=some (.pointer (some ⟨V.v,0,none⟩)):=fun W hW=>(VJ (a:=⟨P,0,none⟩) (hW.2 P rfl)).trans (hT9d.ptr.cell rfl);refine aj false (aq (fun x=>x=P)) (aq.refl _) (fun _ _ _ h1 h2=>aq.trans h1 h2) (.step 0 (.step 1 (.step 2 (.step 3 (.step 4 (.step 5 (.step 6 (.step 7 (.step 8 (.step 9 (.step 10 (.step 11 .done)))))))))))) krA krA cdA ?_
   repeat (first|refine tsA ?_|refine tqA ?_)
   refine an rfl rfl rfA (fun K hK=> ?_);go_wp2_with fail;refine co.mono ?_;clear co;rintro e W10 ⟨r4,hp4,hs4,hcase⟩;have hst4:=ct.vault hs4 hT9d.vl;have hT10:=hT9d.step hst4 (fun x hx=> .inl hx);have hd10:r4.d=r.d:=hs4.d.trans hd9;have hkP:aq (fun x=>x=P) W9.drew W10:=⟨hs4.turn.size,fun x hx=>by subst hx;exact hst4.turn.block x hT9d.ptr.lt fun hF=>(hT9d.sep x hF).1 rfl⟩;have bv10:=hT10.vl.vault.blk;have fv10:=bv10.free;have cv10:W10.cell? ⟨V.v,1,none⟩=some (.pointer (some ⟨V.R.l,0,none⟩)):=bv10.cell rfl;rcases hcase with ⟨he4,rfl⟩|⟨he4,R4,rfl,hdl4,hRn4,hRl4,-,hRf4⟩
   .obtain ⟨e4,he4'⟩:=Le (dH r3.p nm);rw [<-he4'] at he4⊢;have HE4:=Hd he4';clear he4';go_wp2_with fail;refine hK _ _ hkP ?_;clear hK K L0
    repeat (first|refine tsA ?_|refine tqA ?_)
    refine an rfl rfl rfA (fun K hK=> ?_);go_wp2_with fail;refine hK _ _ ⟨by simp [World.setCell],fun x hx=>by subst hx;exact VU W10 ⟨V.v,1,none⟩ x _ (hT10.ptr.ne bv10 dcA)⟩ ?_;clear hK K
    repeat (first|refine tsA ?_|refine tqA ?_)
    refine ap ?_;obtain ⟨W11,hW11⟩:=Le (W10.setCell ⟨V.v,1,none⟩ (.pointer none));rw [<-hW11];have ho11:∀x,x≠V.v->W11.heap[x]? =W10.heap[x]? :=fun x hx=>(by rw [hW11];exact VU W10 ⟨V.v,1,none⟩ x _ hx);have t11:aJ (eM r) w W11:=(by rw [hW11];exact hT10.turn.setCell (x:=⟨V.v,1,none⟩) (.inr (hT10.newR _ (.inl rfl))) _);have bP11:Blk W11 P #[.pointer (some ⟨V.v,0,none⟩)] 28:=(ho11 P (hT10.ptr.ne bv10 dcA)).trans hT10.ptr;have d11:W11.heap[D]? =some (.deferred (some [])):=(ho11 D fun e=>(hT10.sep V.v (.inr (.inr (.inl rfl)))).2.2 e.symm).trans hT10.dfr;have hDP:=hnPD hT10;have cP11:W11.cell? ⟨P,0,none⟩=some (.pointer (some ⟨V.v,0,none⟩)):=bP11.cell rfl;have fP11:=bP11.free;have hd11:aG W11 B r4:=hT10.vl.disk.keep fun x hx=>ho11 x fun e=>hT10.vl.apart V.v (.inr (.inl rfl)) (e▸hx);have hdf9:(W11.setCell ⟨P,0,none⟩ (.pointer none)).heap[D]? =some (.deferred (some [])):=(VU W11 ⟨P,0,none⟩ D _ hDP).trans d11;have ecut:¬(dS r.p nm m).2≠0:=(by rw [HC.out,<-HCE.out];simp);have e3:(dS r.p nm m).1=r3.p:=(by rw [HC.out,hp3]);have te4:(e4 !=0)=true:=(by simpa using he4);have hfin:=Hd (HfS.out (W11.setCell ⟨P,0,none⟩ (.pointer none)) r4 e4 (hd11.keep fun x hx=>VU W11 ⟨P,0,none⟩ x _ (hT10.sep x (.inl hx)).1) (t11.setCell (x:=⟨P,0,none⟩) (.inr hPw) _) (fun x hx=>hT10.new x (.inl hx)) hd10 hdf9
     (by unfold sg;rw [if_neg HO.out,if_neg HF.out,if_neg ecut,e3,hp4]) (by unfold kV;rw [if_neg HO.out,if_neg HF.out,if_neg ecut,e3,HE4.out]) he4)
    have cx:((W11.setCell ⟨P,0,none⟩ (.pointer none)).putObj D (.deferred none)).cell? ⟨P,0,none⟩=some (.pointer none):=(VJ (a:=⟨P,0,none⟩) (World.putObj_heap_other (Vf hDP))).trans ((bP11.set 0 (.pointer none)).cell rfl);clear ecut e3 cv10 hW11;go_wp2_with fail;rw [WA];refine ⟨skA,.inl ⟨_,_,rfl,run_takeDeferred hdf9,?_⟩⟩;refine ⟨.tuple #[.pointer none,.int .i64 0,.int .i64 e4],?_,hfin.out⟩;simp [results,Tryz.f11,go_sem,cx]
   .go_wp2_with fail;refine hK _ _ hkP ?_;clear hK K L0
    repeat (first|refine tsA ?_|refine tqA ?_)
    refine an rfl rfl rfA (fun K hK=> ?_);go_wp2_with fail;refine hK _ _ ⟨by simp [World.setCell],fun x hx=>by subst hx;exact VU W10 ⟨V.v,1,none⟩ x _ (hT10.ptr.ne bv10 dcA)⟩ ?_;clear hK K
    repeat (first|refine tsA ?_|refine tqA ?_)
    refine ap ?_;have hls4:R4.ls=qH r.p nm m:=by
     have q:=rs (p:=r.p) (nm:=nm) hld.out (nA r.p nm m).length (by rw [HCE.out];rfl);rw [hRl4,hp3];unfold ie;rw [q];rfl
    have hlen4:V.ds.length<=R4.ls.length:=by
     rw [hls4];unfold qH;rw [<-HHL.out,<-HRL.out,ltA,HLK.out,<-V.len,HLK.out];have:=hk.out.1;omega
    have hst5:=OC hT9d.vl hs4 hdl4 hRf4 hlen4;have hT11:=hT9d.step hst5 (fun x hx=> .inl hx);generalize W10.setCell ⟨V.v,1,none⟩ (.pointer (some ⟨R4.l,0,none⟩))=W11 at*;have ecut:¬(dS r.p nm m).2≠0:=(by rw [HC.out,<-HCE.out];simp);have e3:(dS r.p nm m).1=r3.p:=(by rw [HC.out,hp3]);have hatle:ie r.p nm m<=rn:=by
     rw [<-HRNN.out,HBB.out];unfold ie;have q:asQ (cW r.p nm).1=asQ ((cW r.p nm).1.take (nA r.p nm m).length)++asQ ((cW r.p nm).1.drop (nA r.p nm m).length):=by
      unfold asQ;rw [<-XP,<-VG,WW]
     rw [q,laA];omega
    have hrn6:rn<=1048576:=by
     have q:=kr hs02.at'.ok nm;rw [hrd] at q;rw [<-HRNN.out];exact q
    have hoN:ii r.p nm<=1048576:=by
     have q:=kr h.ok nm;have q2:=pA iU (bG r.p nm).1;unfold ii cW;split<;>omega
    have hvn:(qB r.p nm m:Int)=(ii r.p nm:Int)+(rn:Int)-(ie r.p nm m:Int):=by
     unfold qB;rw [if_neg HF.out,<-HBB.out,show bb.length=rn from HRNN.out];omega
    have hend:Hid (S (.returned (.tuple #[.pointer (some ⟨V.v,0,none⟩),.int .i64 (qB r.p nm m:Int),.int .i64 0])) (W11.drew.putObj D (.deferred none))):=by
     refine Hd ?_;rw [HS.out];have hT12:=hT11.old (AT _ _).drew;refine ⟨r4,by unfold sg;rw [if_neg HO.out,if_neg HF.out,if_neg ecut,e3,hp4],⟨hT12.turn.defer hDw _,hT12.vl.disk.defer hT12.dfr _,fun x hx=>hT12.new x (.inl hx),hd10⟩,.inr ⟨by unfold kV;rw [if_neg HO.out,if_neg HF.out,if_neg ecut,e3];exact he4,{V with R:=R4},rfl,hT12.vl.defer hT12.dfr _,HVE.out.2.1,HHL.out,hls4,hRn4,HVE.out.2.2,fun x hx=> ?_⟩⟩;rcases hx with hx|hx
     .have q1:=hRf4 x hx;have q2:=hT9d.turn.size;omega
     .exact hT12.newR x hx
    have hdf11:=hT11.dfr;have cx:(W11.drew.putObj D (.deferred none)).cell? ⟨P,0,none⟩=some (.pointer (some ⟨V.v,0,none⟩)):=(VJ (a:=⟨P,0,none⟩) (World.putObj_heap_other (Vf (hnPD hT11)))).trans (hT11.ptr.cell rfl);have bP11:=hT11.ptr;have fP11:=bP11.free;have M0:∀W,aq (fun x=>x=P\/x=A) W11.drew W->W.cell? ⟨P,0,none⟩=some (.pointer (some ⟨V.v,0,none⟩)):=fun W hW=>(VJ (a:=⟨P,0,none⟩) (hW.2 P (.inl rfl))).trans (hT11.ptr.cell rfl);have M1:∀W,aq (fun x=>x=P\/x=A) W11.drew W->W.cell? ⟨A,0,none⟩=some (.int .i64 (ie r.p nm m:Int)):=fun W hW=>(VJ (a:=⟨A,0,none⟩) (hW.2 A (.inr rfl))).trans (hT11.at'.cell rfl);have hself:W11.drew.setCell ⟨P,0,none⟩ (.pointer (some ⟨V.v,0,none⟩))=W11.drew:=ko (M0 _ (aq.refl _ _));have w1:IntKind.i64.wrap ((ii r.p nm:Int)+(rn:Int))=(ii r.p nm:Int)+(rn:Int):=VD _ oA;have w2:IntKind.i64.wrap ((ii r.p nm:Int)+(rn:Int)-(ie r.p nm m:Int))=(qB r.p nm m:Int):=by
     rw [hvn];exact VD _ oA
    clear ecut e3 hls4 hlen4 hst5 hrn6 hoN hvn hatle hdl4 hRf4 hkP hst4 hT10 bv10 fv10 cv10 hT9d hT9 hs4 hs3;generalize ii r.p nm=oN at*;generalize ie r.p nm m=at_ at*;generalize qB r.p nm m=vN at*;go_upto_region 24 with fail;have cPd:=M0 _ (aq.refl _ _);have fPd:∀i,W11.drew.frozen? ⟨P,i,none⟩=false:=fP11;refine aj false (aq (fun x=>x=P\/x=A)) (aq.refl _) (fun _ _ _ h1 h2=>aq.trans h1 h2) (.step 0 (.step 1 (.step 2 (.step 3 (.step 4 (.step 5 (.step 6 (.step 7 (.step 8 (.step 9 .done)))))))))) krA krA cdA ?_
    repeat (first|refine tsA ?_|refine tqA ?_)
    refine an rfl rfl rfA (fun K hK=> ?_);go_wp2_with fail;refine hK _ _ (aq.refl _ _) ?_;clear hK K
    repeat (first|refine tsA ?_|refine tqA ?_)
    refine ap ?_;go_wp2_with fail;rw [WA];refine ⟨skA,.inl ⟨_,_,rfl,run_takeDeferred hdf11,?_⟩⟩;refine ⟨.tuple #[.pointer (some ⟨V.v,0,none⟩),.int .i64 (vN:Int),.int .i64 0],?_,hend.out⟩;simp [results,Tryz.f11,go_sem,cx]
end
end Go.Proofs.YtioigihakjlopaaGreat
