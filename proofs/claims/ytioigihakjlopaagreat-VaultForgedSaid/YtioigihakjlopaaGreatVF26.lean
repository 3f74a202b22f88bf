import Derived.Test.YtioigihakjlopaaGreatVF25
import Derived.WalkMore
namespace Go.Proofs.YtioigihakjlopaaGreat
open Go.Proofs.Tryz
set_option linter.unusedVariables false
set_option linter.unusedSimpArgs false
set_option maxHeartbeats 16000000
set_option maxRecDepth 100000
section
open Go.RowKit Go.Maps Go.Shelf
theorem zv (args:Array Value) (w:World):(callFunc 59 args).run prog w= .ok (.enter 59 args) w:=enters_of func59 krA rfl args w
theorem CP (args:Array Value) (w:World):(callFunc 104 args).run prog w= .ok (.enter 104 args) w:=enters_of func104 krA rfl args w
def qw (w:World) (r:aF) (nm:bz) (bx:Nat) (v:Int) (w':World):Prop:=
 v=(bG r.p nm).2/\∃a n c,Blk w' bx #[.slice a n c] 22/\(bG r.p nm).1.length=n/\Own w' w.heap.size 5 1 a n c ((bG r.p nm).1.map bv)/\Below w.heap.size w w'
theorem BB (w:World) (B:Nat) (r:aF) (f:bJ) (h:aG w B r) (hdn:r.down=false) (hf:f∈r.fs) (w0:World) (bx:Nat) (cs:Array Value) (hbx:Blk w bx #[.slice none 0 0] 22) (hb0:Below w0.heap.size w0 w) (hbx0:w0.heap.size<=bx):
  Calls prog 59 #[.pointer (some ⟨f.blk,0,none⟩),.pointer (some ⟨bx,0,none⟩)] w fun e w'=>∃v,e= .returned (.int .i64 v)/\qw w0 r f.nm bx v w':=by
 have HR:=Hd (show bG r.p f.nm=(f.b,0) by
  unfold bG;rw [oG h hf];simp [aF.p,hdn,bJ.p])
 have hfa:=h.files f hf;have hsz:f.b.length<=1048576:=h.ok.size f.p (VY.2 ⟨f,hf,rfl⟩);have c0:=hfa.blk.rule;go_enter func59,ntmps59;go_wp2_with fail;refine (js f.a f.b.length f.c f.b w hfa.row.read rfl oA).mono ?_;rintro e w1 ⟨a',c',rfl,hown,hb1⟩;have hbx1:=hbx.old hb1;have c1:=hbx1.rule;have c2:=hbx1.free;clear c0;go_wp2_with fail;go_ret;refine ⟨0,rfl,?_⟩;unfold qw;rw [HR.out];refine ⟨rfl,a',f.b.length,c',hbx1.set 0 _,rfl,?_,?_⟩
 .exact (hown.lower hb0.size).setCell_apart hbx1 dcA 0 _
 .exact (ae hb0 hb1).setCell hbx0 _
theorem sD (w:World) (B:Nat) (r:aF) (nm:bz) (h:aG w B r) (hs:nm.size<=maxLen):
  Calls prog 14 #[.pointer (some ⟨r.d,0,none⟩),.string nm] w fun e w'=>∃a n c,e= .returned (.tuple #[.slice a n c,.int .i64 (bG r.p nm).2])/\(bG r.p nm).1.length=n/\Own w' w.heap.size 5 1 a n c ((bG r.p nm).1.map bv)/\Below w.heap.size w w':=by
 have hmf:∀(fn:Fn) (first cap:Array Value) (w:World),(Instr.makeFunc fn first cap).run prog w= .ok (.func fn first cap) w:=fun _ _ _ _=>rfl;have hb2:Below w.heap.size w (w.alloc (.cells #[.slice none 0 0] 22)):=(AT _ _).alloc (Lt _) _;have h2:=h.old hb2;have hB2:=Blk.new w #[.slice none 0 0] 22;go_enter func14,ntmps14;go_wp2_with fail;refine (sV h2 hs 59 _ zv (qw w r nm w.heap.size) ?_ ?_ ?_).mono ?_
 .intro hdn;have e:bG r.p nm=([],5):=(by simp [bG,aF.p,hdn]);unfold qw;rw [e];exact ⟨rfl,none,0,0,hB2,rfl,Own.nil _ _ _ _,hb2⟩
 .intro hdn hno;have e:bG r.p nm=([],4):=(by unfold bG;rw [oH hno];simp [aF.p,hdn]);unfold qw;rw [e];exact ⟨rfl,none,0,0,hB2,rfl,Own.nil _ _ _ _,hb2⟩
 .intro f hf hn hdn;subst hn;exact BB _ B r f h2 hdn hf w _ #[] hB2 hb2 (Lt _)
 .rintro e w1 ⟨v,rfl,hv,a,n,c,hbx,hn,hown,hb⟩;have c0:=hbx.rule;have c1:=hbx.free;go_wp2_with fail;have hc:=(hbx.set 0 (.slice a n c)).rule 0;refine bodyPost_ret (v:= .tuple #[.slice a n c,.int .i64 (bG r.p nm).2]) ?_ rfl ?_
  .simp [results,Tryz.f14,go_sem,hc]
  .exact ⟨a,n,c,rfl,hn,hown.setCell_apart hbx dcA 0 _,hb.setCell (Lt _) _⟩
theorem yZ {w w':World} {B:Nat} {r:aF} {f:bJ} (h:aG w B r) (hf:f∈r.fs) {k s:Nat} (hk:k<=f.b.length) (hs:s<=k) (hblk:Blk w' f.blk #[.slice f.a k f.c,.int .i64 (s:Int)] 112) (hT:aJ (fun x=>x=f.blk) w w'):
  ct B w r w' {r with fs:=nS r.fs f.nm fun g=>{g with b:=g.b.take k,sure:=s}}:=by
 have hfa:=h.files f hf;have hsame:∀g∈r.fs,g.nm=f.nm->g=f:=fun g hg e=>h.same hg hf e;have hk':∀x,x≠f.blk->x<w.heap.size->w'.heap[x]? =w.heap[x]? :=fun x h1 h2=>hT.block x h2 h1;refine ⟨hT.mono (fun x hx=>by subst hx;exact .inr (.inr (.inl ⟨f,hf,.inl rfl⟩))),?_,?_,rfl⟩
 .refine h.upd f.nm (fun g=>{g with b:=g.b.take k,sure:=s}) (fun _ _=>⟨rfl,rfl⟩) (hk' _ (Vf (h.ne_file hf)) h.blk.lt) (hk' _ (Vf (h.ne_map hfa.blk)) h.map.lt) (fun x hx=>hk' _ (h.ne_plan hx hfa.blk dcA) (h.plan.block_lt hx).2.1) ?_ ?_ ?_ ?_
  .intro g hg hgn;exact ⟨hk' _ (Vf (h.apart' hf hg (Vf hgn)).1) (h.files g hg).blk.lt,fun x hx=>hk' _ (h.ne_row hg hx hfa.blk dcA) ((h.files g hg).row.lt hx).2.1⟩
  .intro g hg hgn;obtain rfl:=hsame g hg hgn;have hl:(g.b.take k).length=k:=(by rw [ltA];omega);refine ⟨?_,hfa.ge,?_⟩
   .show Blk w' g.blk #[.slice g.a (g.b.take k).length g.c,.int .i64 (s:Int)] _;rw [hl];exact hblk
   .show Mid w' B 5 g.a (g.b.take k).length g.c ((g.b.take k).map bv);rw [hl,WE];exact (hfa.row.take (k:=k) hk).keep fun x hx=>hk' _ (h.ne_row hf hx hfa.blk dcA) (hfa.row.lt hx).2.1
  .intro g hg hgn g2 hg2 hgn2 x hx;obtain rfl:=hsame g hg hgn;exact (h.apart' hf hg2 (Vf hgn2)).2 x hx
  .have hp5:aF.p {r with fs:=nS r.fs f.nm fun g=>{g with b:=g.b.take k,sure:=s}}=jQ r.p f.nm (fun g=>{g with b:=g.b.take k,sure:=s}):=by
    simp only [aF.p,jQ];rw [ph _ _ _ (fun g=>{g with b:=g.b.take k,sure:=s}) (fun _ _ _=>rfl)]
   show dN (aF.p {r with fs:=nS r.fs f.nm fun g=>{g with b:=g.b.take k,sure:=s}});rw [hp5];refine h.ok.upd f.nm _ (fun _ _=>rfl) (fun g hg hgn=> ?_) (fun g hg hgn=> ?_)
   .obtain ⟨g0,hg0,rfl⟩:=VY.1 hg;obtain rfl:=hsame g0 hg0 hgn;show s<=(g0.b.take k).length;rw [ltA];omega
   .have:=h.ok.size g hg;show (g.b.take k).length<=fh;rw [ltA];omega
 .rintro x (hx|hx|⟨g,hg1,hx⟩|hx)
  .exact .inl (.inl hx)
  .exact .inl (.inr (.inl hx))
  .obtain ⟨g0,hg0,⟨e,rfl⟩|⟨e,rfl⟩⟩:=ol hg1
   .exact .inl (.inr (.inr (.inl ⟨g0,hg0,hx⟩)))
   .exact .inl (.inr (.inr (.inl ⟨_,hg0,hx⟩)))
  .exact .inl (.inr (.inr (.inr hx)))
theorem iZ {P:Program} {l:List Oper} {Q:Exit->Act->World->Prop} {R:World->World->Prop} {i:Nat} {o:Oper} {p:qE} {rest:List (Nat×qE)} {a:Act} {w:World} (ho:gV l i=some o) (hl:oD o=true) (hw:Region.wanted o (yielded l.toArray a.tmps)=true)
  (h:∀K:Act->World->Prop,(∀a' w',cY true P l.toArray Q R p a' w'->K a' w')->o.wp P a w K Q) (h2:ji true P l.toArray Q R rest a w):ji true P l.toArray Q R ((i,p)::rest) a w:=by
 rw [ff] at ho;simp only [ji,ho,hw,if_true];exact ⟨h _ (fun a' w' h2=>⟨.inl (by simp [nz,vy,ho,hl]),h2⟩),h2⟩
def nR (B:Nat) (w:World) (r:aF) (nm:bz) (n:Int) (v:Int) (w':World):Prop:=v=(jh r.p nm n).2/\∃r',r'.p=(jh r.p nm n).1/\ct B w r w' r'
theorem Fu (w:World) (B:Nat) (r:aF) (f:bJ) (h:aG w B r) (hdn:r.down=false) (hf:f∈r.fs) (bn:Nat) (n:Int) (hbn:Blk w bn #[.int .i64 n] 3):
  Calls prog 104 #[.pointer (some ⟨f.blk,0,none⟩),.pointer (some ⟨bn,0,none⟩)] w fun e w'=>∃v,e= .returned (.int .i64 v)/\nR B w r f.nm n v w':=by
 have HDN:=Hd hdn;clear hdn;have hfp:=Hd (oG h hf);have hfa:=h.files f hf;have hsz:f.b.length<=1048576:=h.ok.size f.p (VY.2 ⟨f,hf,rfl⟩);have L1:∀W,Old w.drew W->W.cell? ⟨bn,0,none⟩=some (.int .i64 n):=fun W hW=>(by rw [(hW:Below w.heap.size w.drew W).cell hbn.lt];exact hbn.rule 0);have L2:∀W,Old w.drew W->W.cell? ⟨f.blk,0,none⟩=some (.slice f.a f.b.length f.c):=fun W hW=>(by rw [(hW:Below w.heap.size w.drew W).cell hfa.blk.lt];exact hfa.blk.rule 0);have HE:=Hd (show jh r.p f.nm n=if n<0\/(f.b.length:Int)<n then (r.p,2) else (jQ r.p f.nm fun f=>{f with b:=f.b.take n.toNat,sure:=n.toNat},0) by
  unfold jh lH;rw [hfp.out];simp [aF.p,HDN.out,bJ.p])
 by_cases h0:n<0
 .have t0:decide (n<0)=true:=(by simp [h0]);go_enter func104,ntmps104;go_wp2_with fail;refine aA (0::1::2::3::4::5::6::7::8::9::10::[]) krA krA cdA ?_
  repeat (first|refine lsA ?_|refine lqA ?_)
  refine bO ?_;go_wp2_with fail;go_ret;refine ⟨2,rfl,?_⟩;unfold nR;rw [HE.out,if_pos (.inl h0)];exact ⟨rfl,r,rfl,ct.quiet h (AT _ _).drew⟩
 .have t0:decide (n<0)=false:=soA;by_cases h1:(f.b.length:Int)<n
  .have t1:decide ((f.b.length:Int)<n)=true:=(by simp [h1]);go_enter func104,ntmps104;go_wp2_with fail;refine aA (0::1::2::3::4::5::6::7::8::9::10::[]) krA krA cdA ?_
   repeat (first|refine lsA ?_|refine lqA ?_)
   refine bO ?_;go_wp2_with fail;go_ret;refine ⟨2,rfl,?_⟩;unfold nR;rw [HE.out,if_pos (.inr h1)];exact ⟨rfl,r,rfl,ct.quiet h (AT _ _).drew⟩
  .have t1:decide ((f.b.length:Int)<n)=false:=soA;obtain ⟨k,rfl⟩:∃k:Nat,n=k:=⟨n.toNat,oA⟩;have hkb:k<=f.b.length:=oA;have hkc:(k:Int)<=(f.c:Int):=(by have:=hfa.row.le;omega);go_enter func104,ntmps104;go_wp2_with fail;refine aA (0::1::2::3::4::5::6::7::8::9::10::[]) krA krA cdA ?_
   repeat (first|refine lsA ?_|refine lqA ?_)
   refine bO ?_;go_wp2_with fail;clear L1 L2 t0 t1;have hne:bn≠f.blk:=Blk.ne hbn hfa.blk dcA;have L1:∀W,Old w.drew.drew W->W.cell? ⟨bn,0,none⟩=some (.int .i64 (k:Int)):=fun W hW=>(by rw [(hW:Below w.heap.size w.drew.drew W).cell hbn.lt];exact hbn.rule 0);have L2:∀W,Old w.drew.drew W->W.cell? ⟨f.blk,0,none⟩=some (.slice f.a f.b.length f.c):=fun W hW=>(by rw [(hW:Below w.heap.size w.drew.drew W).cell hfa.blk.lt];exact hfa.blk.rule 0);have c0:=hfa.blk.rule;have c1:=hfa.blk.free;have hB1:=hfa.blk.set 0 (.slice f.a k f.c);have hN1:=hbn.other ⟨f.blk,0,none⟩ (.slice f.a k f.c) hne;have c2:=hB1.rule;have c3:=hB1.free;have c4:=hN1.rule;have c5:=hbn.rule;refine aj true Old Old.refl Old.trans (.step 0 (.step 2 (.step 3 (.step 4 (.step 5 (.step 6 (.step 7 (.step 9 (.step 10 (.fork [(1,(.fork [(8,(.step 11 (.step 12 (.step 13 (.step 14 .done))))),(11,(.step 8 (.step 12 (.step 13 (.step 14 .done)))))])),(8,(.fork [(1,(.step 11 (.step 12 (.step 13 (.step 14 .done))))),(11,(.step 1 (.step 12 (.step 13 (.step 14 .done)))))])),(11,(.step 1 (.step 8 (.step 12 (.step 13 (.step 14 .done))))))])))))))))) krA krA cdA ?_
   repeat (first|refine tsA ?_|refine tqA ?_)
   have L3:∀W,Old (w.setCell ⟨f.blk,0,none⟩ (.slice f.a k f.c)).drew.drew W->W.cell? ⟨bn,0,none⟩=some (.int .i64 (k:Int)):=fun W hW=>(by rw [(hW:Below _ _ W).cell hN1.lt];exact hN1.rule 0);have hB2:Blk ((w.setCell ⟨f.blk,0,none⟩ (.slice f.a k f.c)).setCell ⟨f.blk,1,none⟩ (.int .i64 (k:Int))).drew.drew f.blk #[.slice f.a k f.c,.int .i64 (k:Int)] 112:=(hfa.blk.set 0 _).set 1 _;have hfin:nR B w r f.nm (k:Int) 0 ((w.setCell ⟨f.blk,0,none⟩ (.slice f.a k f.c)).setCell ⟨f.blk,1,none⟩ (.int .i64 (k:Int))).drew.drew:=by
    unfold nR;rw [HE.out,if_neg oA];refine ⟨rfl,_,?_,yZ h hf hkb (Lt _) hB2 ?_⟩
    .simp only [aF.p,jQ];rw [ph _ _ _ (fun g=>{g with b:=g.b.take k,sure:=k}) (fun _ _ _=>rfl)];rfl
    .exact (((aJ.refl (fun x=>x=f.blk) w).setCell (x:=⟨f.blk,0,none⟩) (.inl rfl) _).setCell (x:=⟨f.blk,1,none⟩) (.inl rfl) _).drew.drew
   refine kh ?_;refine iS rfl rfA (fun K hK=> ?_) ?_
   .go_wp2_with fail;refine hK _ _ (Old.refl _) ?_;clear hK K;refine kh ?_;refine iS rfl rfA (fun K hK=> ?_) ?_
    .go_wp2_with fail;refine hK _ _ (Old.refl _) ?_;clear hK K;refine az rfl rfl rfA (fun K hK=> ?_);go_wp2_with fail
     repeat (first|refine tsA ?_|refine tqA ?_)
     refine az rfl rfl rfA (fun K hK=> ?_);go_wp2_with fail;refine ap ?_;go_wp2_with fail;go_ret;exact ⟨0,rfl,hfin⟩
    .refine iZ rfl rfl rfA (fun K hK=> ?_) ?_
     .go_wp2_with fail
      repeat (first|refine tsA ?_|refine tqA ?_)
      refine az rfl rfl rfA (fun K hK=> ?_);go_wp2_with fail;refine ap ?_;go_wp2_with fail;go_ret;exact ⟨0,rfl,hfin⟩
     .exact lX
   .refine iS rfl rfA (fun K hK=> ?_) ?_
    .go_wp2_with fail;refine hK _ _ (Old.refl _) ?_;clear hK K;refine kh ?_;refine iS rfl rfA (fun K hK=> ?_) ?_
     .go_wp2_with fail;refine hK _ _ (Old.refl _) ?_;clear hK K;refine az rfl rfl rfA (fun K hK=> ?_);go_wp2_with fail
      repeat (first|refine tsA ?_|refine tqA ?_)
      refine az rfl rfl rfA (fun K hK=> ?_);go_wp2_with fail;refine ap ?_;go_wp2_with fail;go_ret;exact ⟨0,rfl,hfin⟩
     .refine iZ rfl rfl rfA (fun K hK=> ?_) ?_
      .go_wp2_with fail
       repeat (first|refine tsA ?_|refine tqA ?_)
       refine az rfl rfl rfA (fun K hK=> ?_);go_wp2_with fail;refine ap ?_;go_wp2_with fail;go_ret;exact ⟨0,rfl,hfin⟩
      .exact lX
    .refine iZ rfl rfl rfA (fun K hK=> ?_) ?_
     .go_wp2_with fail
      repeat (first|refine tsA ?_|refine tqA ?_)
      refine az rfl rfl rfA (fun K hK=> ?_);go_wp2_with fail;refine ap ?_;go_wp2_with fail;go_ret;exact ⟨0,rfl,hfin⟩
     .exact lX
theorem CQ (w:World) (B:Nat) (r:aF) (nm:bz) (n:Int) (h:aG w B r) (hs:nm.size<=maxLen):
  Calls prog 43 #[.pointer (some ⟨r.d,0,none⟩),.string nm,.int .i64 n] w fun e w'=>e= .returned (.int .i64 (jh r.p nm n).2)/\∃r',r'.p=(jh r.p nm n).1/\ct B w r w' r':=by
 have hmf:∀(fn:Fn) (first cap:Array Value) (w:World),(Instr.makeFunc fn first cap).run prog w= .ok (.func fn first cap) w:=fun _ _ _ _=>rfl;have hb2:Below w.heap.size w (w.alloc (.cells #[.int .i64 n] 3)):=(AT _ _).alloc (Lt _) _;have h2:=h.old hb2;go_enter func43,ntmps43;go_wp2_with fail;refine (sV h2 hs 104 _ CP (nR B w r nm n) ?_ ?_ ?_).mono ?_
 .intro hdn;have e:jh r.p nm n=(r.p,5):=(by simp [jh,lH,aF.p,hdn]);unfold nR;rw [e];exact ⟨rfl,r,rfl,ct.quiet h hb2⟩
 .intro hdn hno;have e:jh r.p nm n=(r.p,4):=(by unfold jh lH;rw [oH hno];simp [aF.p,hdn]);unfold nR;rw [e];exact ⟨rfl,r,rfl,ct.quiet h hb2⟩
 .intro f hf hn hdn;subst hn;refine (Fu _ B r f h2 hdn hf _ n (Blk.new _ _ _)).mono ?_;rintro e w1 ⟨v,rfl,hv,r',hr',hs'⟩;exact ⟨v,rfl,hv,r',hr',hs'.pre hb2⟩
 .rintro e w1 ⟨v,rfl,hv,r',hr',hs'⟩;go_wp2_with fail;go_ret;refine ⟨?_,r',hr',hs'⟩;rw [<-hv];rfl
theorem Ca {w w1 w2:World} {B:Nat} {r:aF} {nm:bz} (h:aG w B r) (hB:B<=w.heap.size) (hno:∀f∈r.fs,f.nm≠nm) (hnm:cZ nm=true) (hct:r.fs.length<64)
  (hw1:w1=w.alloc (.cells #[.slice none 0 0,.int .i64 0] 112)) (hm:iP w2 prog 9 Rp r.m (r.fs.map fT++ [(nW nm,.lit (.int .i64 (w.heap.size:Int)))])) (ht:w1.mapTurned w2 r.m):
  ct B w r w2 {r with fs:=r.fs++ [⟨nm,w.heap.size,none,0,[],0⟩]}:=by
 have hb1:Below w.heap.size w w1:=(by rw [hw1];exact (AT _ _).alloc (Lt _) _);have hnew:Blk w1 w.heap.size #[.slice none 0 0,.int .i64 0] 112:=(by rw [hw1];exact Blk.new _ _ _);have hg:=ht.grown;have hk:∀x,x≠r.m->x<w.heap.size->w2.heap[x]? =w.heap[x]? :=fun x h1 h2=>(hg.block x (VF h2 hb1.size) (fun e=>h1 (by simpa using e))).trans (hb1.block x h2);have hml:=h.map.lt;have hnewm:w.heap.size≠r.m:=oA;have hfile:jv w2 B ⟨nm,w.heap.size,none,0,[],0⟩:=⟨(hg.block _ hnew.lt (fun e=>hnewm (by simpa using e))).trans hnew,hB,Mid.nil' _ _ _⟩;have hmem:∀g∈r.fs++ [(⟨nm,w.heap.size,none,0,[],0⟩:bJ)],g∈r.fs\/g=⟨nm,w.heap.size,none,0,[],0⟩:=fun g hg=>(by simpa using hg);have hold:∀g∈r.fs,jv w2 B g:=fun g hg=>(h.files g hg).keep (hk _ (h.ne_map (h.files g hg).blk) (h.files g hg).blk.lt) (fun x hx=>by
  obtain ⟨_,h2,cur,hcur⟩:=(h.files g hg).row.lt hx;exact hk x (h.ne_map hcur) h2)
 refine ⟨(aJ.of_below (F:=eM r) hb1).trans (aJ.of_grown (F:=eM r) hg (fun k e=>by cases e;exact .inr (.inl rfl))) (fun _ hk=> .inl hk),?_,?_,rfl⟩
 .refine ⟨h.ged,h.gem,?_,?_,?_,?_,?_,?_⟩
  .exact (hk _ (h.ne_map h.blk) h.blk.lt).trans h.blk
  .rw [VG];exact hm
  .intro g hg;rcases hmem g hg with hg|rfl
   .exact hold g hg
   .exact hfile
  .rw [List.pairwise_append];refine ⟨h.apart,List.pairwise_singleton _ _,fun f hf g hg=> ?_⟩;obtain rfl:=VH.1 hg;refine ⟨?_,fun x _=>by simp [bE]⟩;have:=(h.files f hf).blk.lt;show f.blk≠w.heap.size;omega
  .refine h.plan.keepAt fun x hx=> ?_;obtain ⟨_,h2,cur,hcur⟩:=h.plan.block_lt hx;exact hk _ (h.ne_map hcur) h2
  .have hp:aF.p {r with fs:=r.fs++ [⟨nm,w.heap.size,none,0,[],0⟩]}={r.p with fs:=r.p.fs++ [⟨nm,[],0⟩]}:=(by simp [aF.p,bJ.p]);rw [hp];have hm':∀g∈r.p.fs++ [(⟨nm,[],0⟩:dx)],g∈r.p.fs\/g=⟨nm,[],0⟩:=fun g hg=>(by simpa using hg);refine ⟨?_,?_,?_,?_,?_,h.ok.left⟩
   .show ((r.p.fs++ [(⟨nm,[],0⟩:dx)]).map (·.name)).Nodup;rw [VG,XE];refine ⟨h.ok.names,skA,?_⟩;intro a ha b hb e;obtain rfl:b=nm:=(by simpa using hb);obtain ⟨g,hg,e2⟩:=VY.1 ha;obtain ⟨g0,hg0,rfl⟩:=VY.1 hg;exact hno g0 hg0 (e2.trans e)
   .intro g hg;rcases hm' g hg with hg|rfl
    .exact h.ok.named g hg
    .exact hnm
   .intro g hg;rcases hm' g hg with hg|rfl
    .exact h.ok.sure g hg
    .exact Lt _
   .intro g hg;rcases hm' g hg with hg|rfl
    .exact h.ok.size g hg
    .exact Vo _
   .show (r.p.fs++ [(⟨nm,[],0⟩:dx)]).length<=64;have:r.p.fs.length=r.fs.length:=(by simp [aF.p]);simp;omega
 .rintro x (hx|hx|⟨g,hg1,hx⟩|hx)
  .exact .inl (.inl hx)
  .exact .inl (.inr (.inl hx))
  .rcases hmem g hg1 with hg|rfl
   .exact .inl (.inr (.inr (.inl ⟨g,hg,hx⟩)))
   .rcases hx with hx|hx
    .exact .inr (by subst hx;exact Lt _)
    .simp [bE] at hx
  .exact .inl (.inr (.inr (.inr hx)))
theorem yp (w:World) (B:Nat) (r:aF) (nm:bz) (h:aG w B r) (hB:B<=w.heap.size) (hs:nm.size<=maxLen):
  Calls prog 15 #[.pointer (some ⟨r.d,0,none⟩),.string nm] w fun e w'=>e= .returned (.int .i64 (ew r.p nm).2)/\∃r',r'.p=(ew r.p nm).1/\ct B w r w' r':=by
 have hb:=h.blk.rule;unfold jf at hb;cases hdn:r.down with
 |true=>
  rw [hdn] at hb;have HE:=Hd (show ew r.p nm=(r.p,5) by simp [ew,aF.p,hdn]);go_enter func15,ntmps15;go_wp2_with fail;go_ret;exact ⟨by rw [HE.out];rfl,r,by rw [HE.out],ct.refl h⟩
 |false=>
  rw [hdn] at hb;cases hnm:cZ nm with
  |false=>
   have HE:=Hd (show ew r.p nm=(r.p,2) by simp [ew,aF.p,hdn,hnm]);go_enter func15,ntmps15;go_wp2_with (go_at_call 60;refine (mt nm _).mono ?_;rw [hnm];rintro e w1 ⟨rfl,rfl⟩);go_ret;exact ⟨by rw [HE.out];rfl,r,by rw [HE.out],ct.refl h⟩
  |true=>
   rcases Ls r.fs nm with ⟨f,hf,h1,h2⟩|⟨h1,h2⟩
   .have hl:=h.look hs hf h1;have HE:=Hd (show ew r.p nm=(r.p,101) by
     have:eW r.p nm=some f.p:=h2;simp [ew,aF.p,hdn,hnm] at this⊢;rw [this];simp)
    go_enter func15,ntmps15;go_wp2_with (go_at_call 60;refine (mt nm _).mono ?_;rw [hnm];rintro e w1 ⟨rfl,rfl⟩);go_ret;exact ⟨by rw [HE.out];rfl,r,by rw [HE.out],ct.refl h⟩
   .have hl:=h.look_no hs h1;have hlen:=h.map.len underlying83 3;rw [lmA] at hlen;have hct:=h.ok.count;have hct':r.fs.length<=64:=(by simpa [aF.p] using hct);by_cases hfull:64<=r.fs.length
    .have HE:=Hd (show ew r.p nm=(r.p,100) by
      have:eW r.p nm=none:=h2;simp [ew,aF.p,hdn,hnm,hfull] at this⊢;rw [this])
     have t0:decide ((64:Int)<=(r.fs.length:Int))=true:=soA;go_enter func15,ntmps15;go_wp2_with (go_at_call 60;refine (mt nm _).mono ?_;rw [hnm];rintro e w1 ⟨rfl,rfl⟩);go_ret;exact ⟨by rw [HE.out];rfl,r,by rw [HE.out],ct.refl h⟩
    .have HE:=Hd (show ew r.p nm=({r.p with fs:=r.p.fs++ [⟨nm,[],0⟩]},0) by
      have:eW r.p nm=none:=h2;simp [ew,aF.p,hdn,hnm,hfull] at this⊢;rw [this])
     have t0:decide ((64:Int)<=(r.fs.length:Int))=false:=soA;obtain ⟨w2,hrun,hm2,ht2⟩:=(h.map.keep (w':=w.alloc (.cells #[.slice none 0 0,.int .i64 0] 112)) (Vi _ _ _ h.map.lt)).add IM underlying83 (by unfold maxLen;rw [lmA];omega) (XX underlying9 hs) (Mm w.heap.size) (by
      rw [nu];intro hm;obtain ⟨f,hf,e⟩:=VY.1 hm;exact h1 f hf (kt e))
     go_enter func15,ntmps15;go_wp2_with (go_at_call 60;refine (mt nm _).mono ?_;rw [hnm];rintro e w1 ⟨rfl,rfl⟩);go_ret;exact ⟨by rw [HE.out];rfl,_,by rw [HE.out];simp [aF.p,bJ.p],Ca h hB h1 hnm oA rfl hm2 ht2⟩
theorem pH (l:eA):(l.flatMap eu).length=l.length*2:=lJ (g:=eu) (sz:=2) (fun _=>rfl) l
theorem rp (l:eA):∀u∈l.flatMap eu,u.oneCell'=true:=by
 intro u hu;obtain ⟨x,_,hx⟩:=List.mem_flatMap.1 hu;rcases Ve.1 hx with rfl|hx
 .rfl
 .rcases Ve.1 hx with rfl|hx
  .rfl
  .cases hx
theorem Ac (a:Option Addr) (len cap:Nat) (l:eA) (w:World) (hl:aw w a (l.flatMap eu)) (hlen:l.length=len) (hm:len*24<=140737488355328):
  Calls prog 72 #[.slice a len cap] w fun e w'=>∃a' c',e= .returned (.slice a' len c')/\Own w' w.heap.size 130 2 a' len c' (l.flatMap eu)/\Below w.heap.size w w':=by
 have HL:=Hd hlen;clear hlen;have q:∀(w:World) (a:Option Addr) (n c n' c':Nat),(binOp .eql 47 (.slice a n c) (.slice none n' c')).run prog w= .ok (.bool a.isNone) w:=fun w a n c n' c'=>Lib.run_eql_slice_nil w _ _ a n c n' c' underlying47;cases a with
 |none=>
  have hl0:l=[]:=by
   refine Vz (Nat.eq_zero_of_not_pos fun h=> ?_);obtain ⟨_,_,e,_⟩:=hl 0 (by rw [pH];omega);cases e
  subst hl0;have h0:len=0:=HL.out.symm;go_enter func72,ntmps72;go_wp2_with fail;go_ret;exact ⟨none,0,by rw [h0];rfl,by rw [h0];exact Own.nil _ _ _ _,AT _ _⟩
 |some x=>
  go_enter func72,ntmps72;have hown:Own (w.alloc (.cells #[] 130)) w.heap.size 130 2 (some ⟨w.heap.size,0,none⟩) 0 0 []:=by
   refine ⟨skA,.inr ⟨w.heap.size,0,#[],rfl,Lt _,heap_alloc_new w _,Lt _,mxA,skA,skA⟩⟩
  go_wp2_with (at_builtin;refine al rfl _ _ 47 rfl KM rfl hown rfl (hl.alloc _) (by rw [pH,HL.out]) (rp _) mxA oA skA ?_);intro a1 c1 w1 hown1 hg1;go_wp2_with fail;go_ret;refine ⟨a1,c1,?_,?_,hown.grown ((AT _ _).alloc (Lt _) _) (Lt _) hg1 skA⟩
  .first|rfl|simp
  .simpa using hown1
def nmA:bz:=⟨#[97]⟩
def wk0:aM:=⟨[],false,false,0,[]⟩
def wk1:aM:=⟨[⟨nmA,[],0⟩],false,false,0,[]⟩
def wk2:aM:=⟨[⟨nmA,[1,2,3],0⟩],false,false,0,[]⟩
def wk3:aM:=⟨[⟨nmA,[1,2,3],3⟩],false,false,0,[]⟩
def wk4:aM:=⟨[⟨nmA,[1,2,3,4,5],3⟩],false,false,0,[]⟩
def wk5:aM:=⟨[⟨nmA,[1,2,3,4],4⟩],true,false,0,[]⟩
def wk6:aM:=⟨[⟨nmA,[1,2,3,4],4⟩],false,false,0,[]⟩
theorem k1:ew wk0 nmA=(wk1,0):=by rfl
theorem k2:bt wk1 nmA [1,2,3]=(wk2,0):=by rfl
theorem k3:eL wk2 nmA=(wk3,0):=by rfl
theorem k4:bt wk3 nmA [4,5]=(wk4,0):=by rfl
theorem k5:dE wk4 [(nmA,1)]=(wk5,0):=by rfl
theorem k6:bt wk5 nmA []=(wk5,5):=by rfl
theorem k7:sM wk5=(wk6,0):=by rfl
theorem aw.turn {w w':World} {F:Nat->Prop} {a:Option Addr} {vs:List Value} (h:aw w a vs) (ht:aJ F w w') (hna:∀ad,a=some ad->¬F ad.block):aw w' a vs:=by
 intro i hi;obtain ⟨b,o,h1,h2⟩:=h i hi;exact ⟨b,o,h1,(VJ (a:=⟨b,o+i,none⟩) (ht.block b (VV w _ h2) (hna _ h1))).trans h2⟩
theorem oz (w:World):Calls prog 10 #[] w fun e w'=>∃r,e= .returned (.pointer (some ⟨r.d,0,none⟩))/\Hid (r.p=wk0)/\aG w' w.heap.size r/\Below w.heap.size w w':=
 (Is w).mono (by rintro e w' ⟨rfl,h1,h2,_⟩;exact ⟨newR w,rfl,Hd rfl,h1,h2⟩)
end
section
open Go.RowKit
section
variable {w w':World} {B:Nat} {T t:TypeId} {a a':Option Addr} {n c n' c':Nat}
theorem Own.other {B':Nat} {vs us:List Value} {A:Option Addr} {m C:Nat} (h:Own w B t 1 A m C us) (ho:Own w B' T 1 a n c vs) (hne:T≠t) (hg:w.grownBy w' (Value.slice a n c).ownBlock):Own w' B t 1 A m C us:=by
 refine ⟨h.1,?_⟩;rcases h.2 with h2|⟨g,cap,cur,h1,h2,h3,h4⟩
 .exact .inl h2
 .refine .inr ⟨g,cap,cur,h1,h2,?_,h4⟩;refine (hg.block g (VK.1 h3).1 fun e=> ?_).trans h3;rcases ho.2 with ⟨k1,_⟩|⟨g',cap',cur',k1,_,k3,_⟩
  .rw [k1] at e;cases e
  .rw [k1] at e;cases e;rw [h3] at k3;simp only [Vn,Obj.cells.injEq] at k3;exact hne k3.2.1.symm
theorem Own.cap_max {vs:List Value} (h:Own w B t 1 a n c vs):c<=maxLen:=by
 rcases h.2 with ⟨hv,_⟩|⟨g,cap,cur,hv,_,_,_,hm,_⟩
 .simp only [VC] at hv;unfold maxLen;omega
 .simp only [VC] at hv;omega
def aO (w:World) (B:Nat) (T t:TypeId) (a:Option Addr) (n c:Nat) (vs:List Value) (ls:List (List UInt8)):Prop:=
 Own w B T 1 a n c vs/\vs.length=ls.length/\∀r (h:r<ls.length),∃A C,vs[r]? =some (.slice A ls[r].length C)/\Own w B t 1 A ls[r].length C (ls[r].map bv)
theorem aO.nil (w:World) (B:Nat) (T t:TypeId):aO w B T t none 0 0 [] []:=⟨Own.nil _ _ _ _,rfl,fun r h=>by simp at h⟩
theorem aO.old {vs:List Value} {ls:List (List UInt8)} (h:aO w B T t a n c vs ls) (hb:Below w.heap.size w w'):aO w' B T t a n c vs ls:=
 ⟨h.1.old hb,h.2.1,fun r hr=>by obtain ⟨A,C,h1,h2⟩:=h.2.2 r hr;exact ⟨A,C,h1,h2.old hb⟩⟩
theorem aO.drew {vs:List Value} {ls:List (List UInt8)} (h:aO w B T t a n c vs ls) (k:Nat):aO (w.drewN k) B T t a n c vs ls:=
 h.old (bW (AT _ _) k)
theorem aO.length {vs:List Value} {ls:List (List UInt8)} (h:aO w B T t a n c vs ls):ls.length=n:=by
 have:=h.1.1;rw [<-h.2.1];omega
theorem aO.pieces {vs:List Value} {ls:List (List UInt8)} (h:aO w B T t a n c vs ls):yL w a ls:=by
 intro r hr;obtain ⟨A,C,h1,h2⟩:=h.2.2 r hr;have hr':r<vs.length:=(by rw [h.2.1];exact hr);obtain ⟨b,o,e,hc⟩:=h.1.row r hr';refine ⟨b,o,A,C,e,?_,h2.row,h2.le,h2.cap_max⟩;rw [hc,<-h1,Vx hr']
theorem aO.snoc {B':Nat} {vs:List Value} {ls:List (List UInt8)} (h:aO w B T t a n c vs ls) (hne:T≠t) (hg:w.grownBy w' (Value.slice a n c).ownBlock) {x:List UInt8} {A:Option Addr} {m C:Nat} (hm:x.length=m)
  (hx:Own w B' t 1 A m C (x.map bv)) (hB:B<=B') (h':Own w' B T 1 a' n' c' (vs++ [.slice A m C])):aO w' B T t a' n' c' (vs++ [.slice A m C]) (ls++ [x]):=by
 subst hm;refine ⟨h',by simp [h.2.1],fun r hr=> ?_⟩;by_cases hlt:r<ls.length
 .obtain ⟨A1,C1,h1,h2⟩:=h.2.2 r hlt;rw [List.getElem_append_left hlt];refine ⟨A1,C1,?_,h2.other h.1 hne hg⟩;rw [Vm (by rw [h.2.1];exact hlt)];exact h1
 .have:r=ls.length:=(by simp at hr;omega);subst this;simp only [List.getElem_concat_length];refine ⟨A,C,?_,(hx.lower hB).other h.1 hne hg⟩;rw [<-h.2.1];simp
end
theorem wk:bu prog 124 22 1 24:=bu.mk (z:= .slice none 0 0) underlying124 krA rfl oA
def iU:Nat:=4096
theorem je:iU=4096:=rfl
attribute [irreducible] iU
def JM (w:World) (b:List UInt8) (f:Nat) (loads rest:Value) (w':World):Prop:=
 ∃(a1 a2:Option Addr) (n1 c1 n2 c2:Nat) (vs:List Value) (done:List (List UInt8)) (r:List UInt8),loads= .slice a1 n1 c1/\aO w' w.heap.size 22 5 a1 n1 c1 vs done/\rest= .slice a2 n2 c2/\ah w a2 r/\r.length=n2/\n2<=c2/\n2<=140737488351232/\
  n1+f=iU/\scan iU b=(done++(scan f r).1,(scan f r).2)/\Below w.heap.size w w'
theorem AP {c d:UInt8} (h:c≠d):(U8 c !=U8 d)=true:=by
 have:U8 c≠U8 d:=fun e=>h (UInt8.toNat.inj (Int.ofNat.inj e));simpa using this
def Mk (d0 d1 d2 d3 e0 e1 e2 e3:UInt8) (w:World) (f:Nat) (i:Value) (w':World):Prop:=
 w'=w/\((i= .int .i64 0/\f=4)\/(i= .int .i64 1/\f=3/\d0=e0)\/(i= .int .i64 2/\f=2/\d0=e0/\d1=e1)\/(i= .int .i64 3/\f=1/\d0=e0/\d1=e1/\d2=e2)\/(i= .int .i64 4/\f=0/\d0=e0/\d1=e1/\d2=e2/\d3=e3))
theorem Ea (a:Option Addr) (len cap:Nat) (b:List UInt8) (w:World) (hl:ah w a b) (hlen:b.length=len) (hm:len<=140737488351232) (hcap:len<=cap):
  Calls prog 105 #[.slice a len cap] w fun e w'=>∃a' n' c' vs,e= .returned (.tuple #[.slice a' n' c',.int .i64 ((scan iU b).2.length:Int)])/\aO w' w.heap.size 22 5 a' n' c' vs (scan iU b).1/\Below w.heap.size w w':=by
 have HL:=Hd hlen;clear hlen;go_enter func105,ntmps105;go_wp2_with fail;go_step3;go_wp2_with fail;go_step3;go_wp2_with fail;go_loopg [2,4] iU (JM w b)
 case atStart=>exact ⟨none,a,0,0,len,cap,[],[],b,rfl,aO.nil _ _ _ _,rfl,hl,HL.out,hcap,hm,VS _,skA,AT _ _⟩
 case round=>
  obtain ⟨a1,a2,n1,c1,n2,c2,vs,done,r,rfl,hown,rfl,hr,hn2,hc2,hm2,hf,hs,hb⟩:=hrel;have hr0:=hr;replace hr:=hr0.below hb;have HS:=Hd hs;have HN:=Hd hn2;clear hs hn2;rw [je] at hf;cases gk with
  |zero=>
   have t1:decide ((n1:Int)<4096)=false:=soA;clear hf;go_wp2_with fail
   (try rw [WA]);go_ret2;have e:=gP HS.out (.inl rfl);refine ⟨a1,n1,c1,vs,?_,by rw [e];exact hown,hb⟩;rw [e,HN.out];rfl
  |succ f=>
   have t1:decide ((n1:Int)<4096)=true:=soA;have HF:=Hd hf;clear hf;by_cases h8:n2<=8
   .have t2:decide ((8:Int)<(n2:Int))=false:=soA;go_wp2_with fail
    (try rw [WA]);go_ret2;have e:=gP HS.out (.inr (iy (by rw [HN.out];exact h8)));refine ⟨a1,n1,c1,vs,?_,by rw [e];exact hown,hb⟩;rw [e,HN.out];rfl
   .have t2:decide ((8:Int)<(n2:Int))=true:=soA;obtain ⟨c0,x1,x2,x3,d0,d1,d2,d3,m,rfl,hm0⟩:=Ly (r:=r) (by rw [HN.out];omega);obtain ⟨g,o,rfl,hc⟩:=ah.at hr (by rw [HN.out];omega);have g0:wr.cell? ⟨g,o,none⟩=some (.int .u8 (U8 c0)):=hc 0 skA;have g1:wr.cell? ⟨g,o+1,none⟩=some (.int .u8 (U8 x1)):=hc 1 skA;have g2:wr.cell? ⟨g,o+2,none⟩=some (.int .u8 (U8 x2)):=hc 2 skA;have g3:wr.cell? ⟨g,o+3,none⟩=some (.int .u8 (U8 x3)):=hc 3 skA;have hgw:g<wr.heap.size:=aw.lt hr skA;have k0:(0:Int)<n2:=oA;have k1:(1:Int)<n2:=oA;have k2:(2:Int)<n2:=oA;have k3:(3:Int)<n2:=oA;have hml:m.length+8=n2:=(by have:=HN.out;simp only [VT] at this;omega);obtain ⟨N,hNN⟩:∃N,sF c0 x1 x2 x3=N:=⟨_,rfl⟩;have HO:=orBE c0 x1 x2 x3;rw [hNN] at HO;have hsN:eZ (c0::x1::x2::x3::d0::d1::d2::d3::m)=N:=hNN;by_cases hbad:1<=N/\N<=65536/\N<=n2-8
    .obtain ⟨b1,b2,b3⟩:=hbad;have t3:decide ((N:Int)<1)=false:=soA;have t4:decide ((65536:Int)<(N:Int))=false:=soA;have t5:decide ((n2:Int)-8<(N:Int))=false:=soA;go_wp2_with fail;go_quiet (fail);go_wp2_with fail;have hx:=aw.drop (b:=g) (o:=o) 8 hr;have hw4:ah (wr.drewN nq) (some ⟨g,o,none⟩) [c0,x1,x2,x3]:=aw.take 4 hr;refine (Bc _ 4 _ [c0,x1,x2,x3] _ hw4 rfl mxA).mono ?_;rintro e w1 ⟨rfl,hb1⟩;have hb01:Below wr.heap.size wr w1:=ae (bW (AT _ wr) nq) hb1;have hld:ah w1 (some ⟨g,o+8,none⟩) (m.take N):=by
      have:ah wr (some ⟨g,o+8,none⟩) (m.take N):=(by unfold ah;rw [WE];exact aw.take N hx);exact this.below hb01
     have hlN:(m.take N).length=N:=(by rw [ltA];omega);go_wp2_with fail;refine (sS _ _ _ _ (m.take N) _ hld hlN mxA).mono ?_;rintro e w2 ⟨rfl,hb2⟩;rw [Bv c0 x1 x2 x3 (m.take N) (by rw [hlN,hNN])];have hb02:=ae hb01 hb2;have hsc:=vM c0 x1 x2 x3 d0 d1 d2 d3 m hm0 (by rw [hNN];exact b1) (by rw [hNN];exact b2) (by rw [hNN];omega);rw [hNN] at hsc;have hSC:=Hd hsc;clear hsc;obtain ⟨sm,hsm⟩:∃s,jN (m.take N)=s:=⟨_,rfl⟩;rw [hsm] at hSC⊢;clear hsm;have f0:=Da sm;have f1:=GC sm;have f2:=Dc sm;have f3:=Db sm;have hq:le4 sm=[⟨sm.setWidth 8⟩,⟨(sm>>>8).setWidth 8⟩,⟨(sm>>>16).setWidth 8⟩,⟨(sm>>>24).setWidth 8⟩]:=rfl;generalize (⟨sm.setWidth 8⟩:UInt8)=e0 at*;generalize (⟨(sm>>>8).setWidth 8⟩:UInt8)=e1 at*;generalize (⟨(sm>>>16).setWidth 8⟩:UInt8)=e2 at*;generalize (⟨(sm>>>24).setWidth 8⟩:UInt8)=e3 at*;rw [hq] at hSC;clear hq;have q0:w2.cell? ⟨g,o+4,none⟩=some (.int .u8 (U8 d0)):=(by rw [hb02.cell hgw];exact hc 4 skA);have q1:w2.cell? ⟨g,o+5,none⟩=some (.int .u8 (U8 d1)):=(by rw [hb02.cell hgw];exact hc 5 skA);have q2:w2.cell? ⟨g,o+6,none⟩=some (.int .u8 (U8 d2)):=(by rw [hb02.cell hgw];exact hc 6 skA);have q3:w2.cell? ⟨g,o+7,none⟩=some (.int .u8 (U8 d3)):=(by rw [hb02.cell hgw];exact hc 7 skA);have hown2:=hown.old hb02;have hbt:=ae hb hb02;have hld2:=hld.below hb2;have hstop:[d0,d1,d2,d3]≠ [e0,e1,e2,e3]->scan iU b=(done,c0::x1::x2::x3::d0::d1::d2::d3::m):=fun h=>gP HS.out (.inr (by rw [hSC.out];exact beq_false_of_ne h));have hSTOP:=Hd hstop;clear hstop;have hgo:[d0,d1,d2,d3]=[e0,e1,e2,e3]->scan iU b=((done++ [m.take N])++(scan f (m.drop N)).1,(scan f (m.drop N)).2):=fun h=>by
      have:=uc HS.out (by rw [hSC.out,h];exact BEq.rfl);unfold fS at this;rw [hsN,Nat.add_comm 8 N] at this;exact this
     have hGO:=Hd hgo;clear hgo;go_wp2_with fail;go_loopg [68] 4 (Mk d0 d1 d2 d3 e0 e1 e2 e3 w2)
     case atStart=>exact ⟨rfl,.inl ⟨rfl,rfl⟩⟩
     case round=>
      obtain ⟨rfl,⟨rfl,rfl⟩|⟨rfl,rfl,y0⟩|⟨rfl,rfl,y0,y1⟩|⟨rfl,rfl,y0,y1,y2⟩|⟨rfl,rfl,y0,y1,y2,y3⟩⟩:=hrel
      .by_cases y0:d0=e0
       .have ht:(U8 d0 !=U32 sm%256)=false:=(by rw [f0,y0];simp);go_wp2_with fail;go_roundg 3
        case rel=>exact ⟨rfl,.inr (.inl ⟨rfl,rfl,y0⟩)⟩
        case measure=>omega
       .have ht:(U8 d0 !=U32 sm%256)=true:=(by rw [f0];exact AP y0);go_wp2_with fail
        (try rw [WA]);go_ret2;have e:=hSTOP.out fun h=>y0 (by simp only [XG] at h;exact h.1);refine ⟨a1,n1,c1,vs,?_,by rw [e];exact hown2,hbt⟩;rw [e,HN.out];rfl
      .by_cases y1:d1=e1
       .have ht:(U8 d1 !=U32 sm/256%256)=false:=(by rw [f1,y1];simp);go_wp2_with fail;go_roundg 2
        case rel=>exact ⟨rfl,.inr (.inr (.inl ⟨rfl,rfl,y0,y1⟩))⟩
        case measure=>omega
       .have ht:(U8 d1 !=U32 sm/256%256)=true:=(by rw [f1];exact AP y1);go_wp2_with fail
        (try rw [WA]);go_ret2;have e:=hSTOP.out fun h=>y1 (by simp only [XG] at h;exact h.2.1);refine ⟨a1,n1,c1,vs,?_,by rw [e];exact hown2,hbt⟩;rw [e,HN.out];rfl
      .by_cases y2:d2=e2
       .have ht:(U8 d2 !=U32 sm/65536%256)=false:=(by rw [f2,y2];simp);go_wp2_with fail;go_roundg 1
        case rel=>exact ⟨rfl,.inr (.inr (.inr (.inl ⟨rfl,rfl,y0,y1,y2⟩)))⟩
        case measure=>omega
       .have ht:(U8 d2 !=U32 sm/65536%256)=true:=(by rw [f2];exact AP y2);go_wp2_with fail
        (try rw [WA]);go_ret2;have e:=hSTOP.out fun h=>y2 (by simp only [XG] at h;exact h.2.2.1);refine ⟨a1,n1,c1,vs,?_,by rw [e];exact hown2,hbt⟩;rw [e,HN.out];rfl
      .by_cases y3:d3=e3
       .have ht:(U8 d3 !=U32 sm/16777216%256)=false:=(by rw [f3,y3];simp);go_wp2_with fail;go_roundg 0
        case rel=>exact ⟨rfl,.inr (.inr (.inr (.inr (⟨rfl,rfl,y0,y1,y2,y3⟩))))⟩
        case measure=>omega
       .have ht:(U8 d3 !=U32 sm/16777216%256)=true:=(by rw [f3];exact AP y3);go_wp2_with fail
        (try rw [WA]);go_ret2;have e:=hSTOP.out fun h=>y3 (by simp only [XG] at h;exact h.2.2.2.1);refine ⟨a1,n1,c1,vs,?_,by rw [e];exact hown2,hbt⟩;rw [e,HN.out];rfl
      .have hcnt:=HF.out;go_wp2_with fail;refine (js _ _ _ (m.take N) _ hld2 hlN oA).mono ?_;rintro e w3 ⟨a3,c3,rfl,hx3,hb3⟩;have hown3:=(hown2.old hb3).old ((AT _ w3).alloc (Lt _) (.cells #[.slice a3 N c3] 22));have hlit:=Own.lit (w:=w3) (B:=0) (e:=22) #[.slice a3 N c3] [.slice a3 N c3] 1 rfl rfl (Vo _) mxA;have hbt3:=ae (ae hbt hb3) ((AT _ w3).alloc (Lt _) (.cells #[.slice a3 N c3] 22));go_wp2_with (at_builtin;refine al rfl _ _ 124 rfl wk rfl hown3.1 rfl hlit.row rfl (by intro u hu;rw [VH.1 hu];rfl) mxA oA hbt3.size ?_);intro a4 c4 w4 hown4 hg4;have hnew:=hown3.snoc dcA hg4 hlN (hx3.alloc _) hbt.size hown4;have hb4:=hown3.1.grown hbt3 (Lt _) hg4 hbt3.size;have hnx:=hGO.out (by rw [y0,y1,y2,y3]);have hml2:(m.drop N).length=n2-(8+N):=(by rw [ldA];omega);go_wp2_with fail
       case inl hcc=>
        have hm0:m.drop N=[]:=Vz oA;go_roundg f
        case measure=>omega
        case rel=>exact ⟨a4,_,n1+1,c4,_,0,_,_,m.drop N,rfl,hnew,rfl,by rw [hm0];exact aw.nil _ _,hml2,oA,oA,by rw [je];omega,hnx,hb4⟩
       case inr hcc=>
        go_roundg f
        case measure=>omega
        case rel=>
         refine ⟨a4,_,n1+1,c4,_,_,_,_,m.drop N,rfl,hnew,rfl,?_,hml2,oA,oA,by rw [je];omega,hnx,hb4⟩;have hz:=aw.drop N (aw.drop (b:=g) (o:=o) 8 hr0);rw [WP] at hz;unfold ah;rw [List.map_drop];exact hz
    .have hno:=xJ (b:=c0::x1::x2::x3::d0::d1::d2::d3::m) (by rw [hsN,HN.out];exact hbad);have e:=gP HS.out (.inr hno);have HE:=Hd e;have HA:=Hd hbad;clear hbad hno e;by_cases b1:1<=N
     .have t3:decide ((N:Int)<1)=false:=soA;by_cases b2:N<=65536
      .have t4:decide ((65536:Int)<(N:Int))=false:=soA;have t5:decide ((n2:Int)-8<(N:Int))=true:=(by have:=HA.out;simp;omega);go_wp2_with fail;go_quiet (fail);go_wp2_with fail
       (try rw [WA]);go_ret2;refine ⟨a1,n1,c1,vs,?_,by rw [HE.out];exact hown.drew _,bW hb _⟩;rw [HE.out,HN.out];rfl
      .have t4:decide ((65536:Int)<(N:Int))=true:=soA;go_wp2_with fail;go_quiet (fail);go_wp2_with fail
       (try rw [WA]);go_ret2;refine ⟨a1,n1,c1,vs,?_,by rw [HE.out];exact hown.drew _,bW hb _⟩;rw [HE.out,HN.out];rfl
     .have t3:decide ((N:Int)<1)=true:=soA;go_wp2_with fail;go_quiet (fail);go_wp2_with fail
      (try rw [WA]);go_ret2;refine ⟨a1,n1,c1,vs,?_,by rw [HE.out];exact hown.drew _,bW hb _⟩;rw [HE.out,HN.out];rfl
end
section
open Go.RowKit Go.Maps
section
variable {w w':World} {B:Nat} {T t:TypeId} {a:Option Addr} {n c:Nat} {vs:List Value} {ls:List (List UInt8)}
theorem aO.keep (h:aO w B T t a n c vs ls) (hk:∀x,a=some x->w'.heap[x.block]? =w.heap[x.block]?) (hk2:∀ad m C,Value.slice (some ad) m C∈vs->w'.heap[ad.block]? =w.heap[ad.block]?):aO w' B T t a n c vs ls:=by
 refine ⟨h.1.keepAt hk,h.2.1,fun r hr=> ?_⟩;obtain ⟨A,C,h1,h2⟩:=h.2.2 r hr;exact ⟨A,C,h1,h2.keepAt fun x hx=>by subst hx;exact hk2 x _ C (List.mem_of_getElem? h1)⟩
theorem aO.lower {B':Nat} (h:aO w B T t a n c vs ls) (hB:B'<=B):aO w B' T t a n c vs ls:=
 ⟨h.1.lower hB,h.2.1,fun r hr=>by obtain ⟨A,C,h1,h2⟩:=h.2.2 r hr;exact ⟨A,C,h1,h2.lower hB⟩⟩
theorem aO.inner {ad:Addr} {m C:Nat} (h:aO w B T t a n c vs ls) (hm:Value.slice (some ad) m C∈vs):B<=ad.block/\ad.block<w.heap.size/\∃cur,Blk w ad.block cur t:=by
 obtain ⟨r,hr,he⟩:=XR hm;obtain ⟨A,C',h1,h2⟩:=h.2.2 r (by rw [<-h.2.1];exact hr);rw [Vx hr,he] at h1;simp only [Vn,VC] at h1;exact h2.block_lt h1.1.symm
end
structure jP where
 l:Nat
 nm:bz
 a:Option Addr
 c:Nat
 vs:List Value
 ls:List (List UInt8)
 sure:Nat
structure ld (w:World) (B:Nat) (d:Nat) (R:jP):Prop where
 ge:B<=R.l
 blk:Blk w R.l #[.pointer (some ⟨d,0,none⟩),.string R.nm,.slice R.a R.ls.length R.c,.int .i64 (R.sure:Int)] 164
 rows:aO w B 22 5 R.a R.ls.length R.c R.vs R.ls
 cnt:R.ls.length<=4096
 lens:∀x∈R.ls,x.length<=65536
 nmz:R.nm.size<=maxLen
 sle:R.sure<=R.ls.length
def dJ (R:jP) (x:Nat):Prop:=x=R.l\/(∃ad,R.a=some ad/\x=ad.block)\/∃ad m C,Value.slice (some ad) m C∈R.vs/\x=ad.block
section
variable {w w':World} {B d:Nat} {R R' R'':jP} {r r' r'':aF}
theorem ld.keep (h:ld w B d R) (hk:∀x,dJ R x->w'.heap[x]? =w.heap[x]?):ld w' B d R:=
 ⟨h.ge,(hk _ (.inl rfl)).trans h.blk,h.rows.keep (fun x hx=>hk _ (.inr (.inl ⟨x,hx,rfl⟩))) (fun ad m C hm=>hk _ (.inr (.inr ⟨ad,m,C,hm,rfl⟩))),h.cnt,h.lens,h.nmz,h.sle⟩
theorem ld.lt (h:ld w B d R) {x:Nat} (hx:dJ R x):B<=x/\x<w.heap.size:=by
 rcases hx with rfl|⟨ad,ha,rfl⟩|⟨ad,m,C,hm,rfl⟩
 .exact ⟨h.ge,h.blk.lt⟩
 .obtain ⟨h1,h2,_⟩:=h.rows.1.block_lt ha;exact ⟨h1,h2⟩
 .obtain ⟨h1,h2,_⟩:=h.rows.inner hm;exact ⟨h1,h2⟩
theorem ld.old (h:ld w B d R) (hb:Below w.heap.size w w'):ld w' B d R:=h.keep fun x hx=>hb.block x (h.lt hx).2
structure DL (w:World) (B:Nat) (r:aF) (R:jP):Prop where
 disk:aG w B r
 log:ld w B r.d R
 apart:∀x,dJ R x->¬eM r x
theorem DL.keep (h:DL w B r R) (hk:∀x,eM r x\/dJ R x->w'.heap[x]? =w.heap[x]?):DL w' B r R:=⟨h.disk.keep fun x hx=>hk x (.inl hx),h.log.keep fun x hx=>hk x (.inr hx),h.apart⟩
theorem DL.lt (h:DL w B r R) {x:Nat} (hx:eM r x\/dJ R x):B<=x/\x<w.heap.size:=hx.elim h.disk.lt h.log.lt
theorem DL.old (h:DL w B r R) (hb:Below w.heap.size w w'):DL w' B r R:=h.keep fun x hx=>hb.block x (h.lt hx).2
structure iq (B:Nat) (w:World) (r:aF) (R:jP) (w':World) (r':aF) (R':jP):Prop where
 turn:aJ (fun x=>eM r x\/dJ R x) w w'
 at':DL w' B r' R'
 foot':∀x,eM r' x\/dJ R' x->(eM r x\/dJ R x)\/w.heap.size<=x
 d:r'.d=r.d
 l:R'.l=R.l
 nm:R'.nm=R.nm
theorem iq.trans {w'':World} (h:iq B w r R w' r' R') (h':iq B w' r' R' w'' r'' R''):iq B w r R w'' r'' R'':=
 ⟨h.turn.trans h'.turn h.foot',h'.at',fun x hx=>by
  rcases h'.foot' x hx with h1|h1
  .exact h.foot' x h1
  .exact .inr (At h.turn.size h1),h'.d.trans h.d,h'.l.trans h.l,h'.nm.trans h.nm⟩
theorem iq.old (h:DL w B r R) (hb:Below w.heap.size w w'):iq B w r R w' r R:=⟨aJ.of_below hb,h.old hb,fun _ hx=> .inl hx,rfl,rfl,rfl⟩
theorem ct.log (hs:ct B w r w' r') (h:DL w B r R):iq B w r R w' r' R:=by
 refine ⟨hs.turn.mono fun _ hx=> .inl hx,⟨hs.at',?_,fun x hx hf=> ?_⟩,fun x hx=> ?_,hs.d,rfl,rfl⟩
 .rw [hs.d];exact h.log.keep fun x hx=>hs.turn.block x (h.log.lt hx).2 (h.apart x hx)
 .rcases hs.foot' x hf with h1|h1
  .exact h.apart x hx h1
  .have:=(h.log.lt hx).2;omega
 .rcases hx with hx|hx
  .rcases hs.foot' x hx with h1|h1
   .exact .inl (.inl h1)
   .exact .inr h1
  .exact .inl (.inr hx)
end
def cW (p:aM) (nm:bz):List (List UInt8)×List UInt8:=scan iU (bG p nm).1
def bS (p:aM) (nm:bz):aM×Int:=if (bG p nm).2=4 then ew p nm else (p,(bG p nm).2)
def aY (p:aM) (nm:bz):aM×Int:=if (cW p nm).2.length=0 then ((bS p nm).1,0) else jh (bS p nm).1 nm ((((bG p nm).1.length-(cW p nm).2.length:Nat)):Int)
def dD (p:aM) (nm:bz):aM×Int:=eL (aY p nm).1 nm
def dH (p:aM) (nm:bz):Int:=if (bS p nm).2≠0 then (bS p nm).2 else if (aY p nm).2≠0 then (aY p nm).2 else (dD p nm).2
def fU (p:aM) (nm:bz):aM:=if (bS p nm).2≠0 then (bS p nm).1 else if (aY p nm).2≠0 then (aY p nm).1 else (dD p nm).1
def ii (p:aM) (nm:bz):Nat:=if dH p nm=0 then (cW p nm).2.length else 0
end
end Go.Proofs.YtioigihakjlopaaGreat
