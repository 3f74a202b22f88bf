import Derived.Test.YtioigihakjlopaaGreatVF06
namespace Go.Proofs.YtioigihakjlopaaGreat
open Go.Proofs.Tryz
set_option linter.unusedVariables false
set_option linter.unusedSimpArgs false
set_option maxHeartbeats 16000000
set_option maxRecDepth 100000
section
open Go.RowKit
def dX (cs:Array Value) (i:Nat):List Value->Array Value
 | []=>cs
 |v::l=>dX (cs.setIfInBounds i v) (i+1) l
theorem ml:∀(l m:List Value) (cs:Array Value) (i:Nat),dX cs i (l++m)=dX (dX cs i l) (i+l.length) m
 | [],m,cs,i=>rfl
 |v::l,m,cs,i=>by
  rw [XN,dX,dX,ml l m,VT,WP,Nat.add_comm 1]
theorem eT:∀(l:List Value) (cs:Array Value) (i:Nat),(dX cs i l).size=cs.size
 | [],cs,i=>rfl
 |v::l,cs,i=>by rw [dX,eT l];simp
theorem gS:∀(l:List Value) (cs:Array Value) (i j:Nat),j<i\/i+l.length<=j->(dX cs i l)[j]? =cs[j]?
 | [],cs,i,j,_=>rfl
 |v::l,cs,i,j,h=>by
  rw [dX,gS l _ _ _ (by simp at h;omega)];rw [Vl];rw [if_neg (by simp at h;omega)]
theorem mZ:∀(l:List Value) (cs:Array Value) (i j:Nat),i+l.length<=cs.size->∀hj:j<l.length,(dX cs i l)[i+j]? =some l[j]
 |v::l,cs,i,0,h,_=>by
  rw [dX,gS l _ _ _ oA];rw [VT] at h;rw [Vl];simp;omega
 |v::l,cs,i,j+1,h,hj=>by
  rw [VT] at h;have:=mZ l (cs.setIfInBounds i v) (i+1) j soA (by simpa using hj);rw [dX,show i+(j+1)=i+1+j by omega,this];rfl
theorem zB {cs:Array Value} {l:List Value} (h:cs.size=l.length):dX cs 0 l=l.toArray:=by
 apply Wr;intro j;by_cases hj:j<l.length
 .have:=mZ l cs 0 j oA hj;rw [VS] at this;rw [this];simp [hj]
 .rw [Vy (by rw [eT];omega),Vy (by simpa using hj)]
def yO (cs:Array Value) (i:Nat) (l:List Value):Prop:=∀j (hj:j<l.length),cs[i+j]? =some l[j]
def gK (bs:List UInt8) (a:Nat):Int:=(rdB ((bs.drop a).take 8)).toInt
def JP {α:Type} (B:Nat) (w:World) (q:RC) (r:Rd α) (f:α->Array Value) (xb:Nat) (t:TypeId) (e:Ending) (w':World):Prop:=match r with
 | .error p=>e= .panicked (lU p)/\gq w q w' xb t
 | .ok (v,a)=>e= .returned (.tuple #[])/\lO B w q w' (q.to a) xb (f v) t
abbrev sP (bs:List UInt8) (a m:Nat):List Value:=(List.range m).map fun j=> .int .i64 (gK bs (a+8*j))
def Pk (w:World) (B:Nat) (q:RC) (xb i:Nat) (cs:Array Value) (t:TypeId) (m:Nat) (f:Nat) (v8:Value) (wr:World):Prop:=
 ∃k:Nat,k+f=m/\v8= .int .i64 (k:Int)/\q.at_+8*k<=q.bs.length/\lO B w q wr (q.to (q.at_+8*k)) xb (dX cs i (sP q.bs q.at_ k)) t
theorem Gg (w:World) (B:Nat) (q:RC) (g m xb i:Nat) (cs:Array Value) (t:TypeId) (hq:RAt w B q) (hB:B<=w.heap.size) (hg:Blk w g ((List.range m).map fun j=>Value.pointer (some ⟨xb,i+j,none⟩)).toArray 209) (hgc:g≠q.c) (hgx:g≠xb) (hx:Blk w xb cs t) (hi:∀j,j<m->∃v,cs[i+j]? =some (.int .i64 v)) (hxB:B<=xb) (hxc:xb≠q.c) (hm:m<=8):
  Calls prog 146 #[.pointer (some ⟨q.c,0,none⟩),.slice (some ⟨g,0,none⟩) m m] w fun e w'=>(q.bs.length<q.at_+8*m->e= .panicked (lU q.bs.length)/\gq w q w' xb t)/\
   (q.at_+8*m<=q.bs.length->e= .returned (.tuple #[])/\lO B w q w' (q.to (q.at_+8*m)) xb (dX cs i (sP q.bs q.at_ m)) t):=by
 have hmx:=hq.max;go_enter func146,ntmps146;go_wp2_with fail;go_loopg [8] m (Pk w B q xb i cs t m)
 case atStart=>exact ⟨0,oA,rfl,hq.le,hq,aJ.refl _ _,hx⟩
 case round=>
  obtain ⟨k,hk,rfl,hle,hr⟩:=hrel;by_cases hlt:k<m
  .have t0:decide ((k:Int)<(m:Int))=true:=soA;have hgr:Blk wr g _ _:=(hr.turn.block g hg.lt (by rintro (h|h);exact hgc h;exact hgx h)).trans hg;have cg:wr.cell? ⟨g,k,none⟩=some (.pointer (some ⟨xb,i+k,none⟩)):=(by rw [hgr.rule];simp [hlt]);obtain ⟨v,hv⟩:=hi k hlt;have hv2:(dX cs i (sP q.bs q.at_ k))[i+k]? =some (.int .i64 v):=(by rw [gS _ _ _ _ skA];exact hv);have cb:=BQ wr B (q.to (q.at_+8*k)) xb (i+k) _ t v hr.at' (At hB hr.turn.size) hr.blk hv2 hxB hxc;have hcc:(q.to (q.at_+8*k)).c=q.c:=rfl;rw [hcc] at cb;clear hgr hv hv2;go_wp2_with fail;refine cb.mono ?_;clear cb;rintro e w2 ⟨h1,h2⟩;by_cases hmore:q.at_+8*k+8<=q.bs.length
   .obtain ⟨rfl,hg2⟩:=h2 hmore;have hr2:lO B w q w2 (q.to (q.at_+8*(k+1))) xb (dX cs i (sP q.bs q.at_ (k+1))) t:=by
     have e1:dX cs i (sP q.bs q.at_ (k+1))=(dX cs i (sP q.bs q.at_ k)).setIfInBounds (i+k) (.int .i64 (gK q.bs (q.at_+8*k))):=by
      unfold sP;rw [List.range_succ,VG,ml];simp [dX]
     rw [e1];exact ⟨hg2.at',(hr.chain (q'':=q.to (q.at_+8*k+8)) hg2 rfl).turn,hg2.blk⟩
    clear h1 h2 hg2;go_wp2_with fail;go_roundg (gk-1)
    case measure=>omega
    case rel=>exact ⟨k+1,oA,gnA,oA,hr2⟩
   .obtain ⟨rfl,hb2⟩:=h1 (by show q.bs.length<q.at_+8*k+8;omega);have hb3:gq w q w2 xb t:=gq.after hr hx (eT _ _ _) hb2 rfl;clear h1 h2;go_wp2_with fail;exact ⟨rfl,fun _=>⟨rfl,hb3⟩,fun h=>by omega⟩
  .have hkm:k=m:=oA;subst hkm;have t0:decide ((k:Int)<(k:Int))=false:=skA;go_wp2_with fail;refine WF (v:= .tuple #[]) (Wx rfl _ _ _) rfl ⟨fun h=>by omega,fun _=>⟨rfl,hr⟩⟩
theorem Hq (w:World) (B:Nat) (q:RC) (xb i:Nat) (cs:Array Value) (t:TypeId) (z:Int) (hq:RAt w B q) (hB:B<=w.heap.size) (hx:Blk w xb cs t) (hi:cs[i]? =some (.int .i8 z)) (hxB:B<=xb) (hxc:xb≠q.c):
  Calls prog 145 #[.pointer (some ⟨q.c,0,none⟩),.pointer (some ⟨xb,i,none⟩)] w (JP B w q (dQ q.bs q.at_) (fun n=>cs.setIfInBounds i (.int .i8 n)) xb t):=by
 have hxl:=hx.lt;have hcl:=hq.blk.lt;go_enter func145,ntmps145;go_wp2_with fail;have r1:∀W,Old w.drew W->W.cell? ⟨q.c,1,none⟩=some (.int .i64 (q.at_:Int)):=fun W hW=>(by rw [hW.cell (p:=⟨q.c,1,none⟩) hcl];exact hq.blk.rule 1);have r2:∀W,Old w.drew W->W.cell? ⟨xb,i,none⟩=some (.int .i8 z):=fun W hW=>(by rw [hW.cell (p:=⟨xb,i,none⟩) hxl];exact (hx.rule i).trans hi);refine aj true Old Old.refl Old.trans (.step 0 (.step 1 (.step 2 (.step 3 (.step 4 (.step 5 (.step 6 (.step 7 (.step 8 (.step 9 (.step 10 .done))))))))))) krA krA cdA ?_
 repeat (first|refine tsA ?_|refine tqA ?_)
 refine an rfl rfl rfA (fun K hK=> ?_);go_wp2_with fail;refine hK _ _ ((AT _ _).alloc (Lt _) _) ?_;clear hK K r1 r2
 repeat (first|refine tsA ?_|refine tqA ?_)
 refine az rfl rfl rfA (fun K hK=> ?_);go_wp2_with fail;refine ap ?_;go_upto_region 1 with (fail);obtain ⟨Y,hY⟩:=Le w.heap.size;rw [<-hY];refine af (fun W=>(∃y:Int,Blk W Y #[.int .i64 y] 3)/\Below w.heap.size w W) ⟨⟨_,by rw [hY];exact (Blk.new w _ _).drew⟩,cL⟩ ?_;rintro W1 ⟨⟨y0,hn1⟩,hb1⟩;have hYB:B<=Y:=oA;have hYc:Y≠q.c:=oA;have hYx:xb≠Y:=oA;have hB1:=At hB hb1.size;have hq1:=hq.old hb1 hB;have cb:=BQ W1 B q Y 0 _ _ _ hq1 hB1 hn1 rfl hYB hYc;have hx1:=hx.old hb1;have HY:=Hd hY;clear hY;go_wp2_with fail;refine cb.mono ?_;clear cb;rintro e w2 ⟨h1,h2⟩;by_cases hmore:q.at_+8<=q.bs.length
 .obtain ⟨rfl,hg⟩:=h2 hmore;clear h1 h2;have e0:bB q.bs q.at_= .ok (gK q.bs q.at_,q.at_+8):=(by unfold bB;rw [if_neg oA];rfl);have cn:=hg.blk.rule;obtain ⟨n,hn⟩:=Le (gK q.bs q.at_);have cn2:w2.cell? ⟨Y,0,none⟩=some (.int .i64 n):=(by rw [hn];exact cn 0);rw [<-hn] at e0;have hbel2:gq w q w2 xb t:=lO.loc hb1 hg (VR HY.out.symm) rfl hxc hxl;clear cn hn hn1;by_cases ho:n< -128\/127<n
  .have HR:=Hd (show dQ q.bs q.at_= .error q.at_ by unfold dQ;rw [e0];dsimp only;rw [if_pos ho]);have HB2:=Hd hbel2;by_cases o1:n< -128
   .have d1:decide (n< -128)=true:=soA;clear ho;go_wp2_with fail;refine ⟨rfl,?_⟩;rw [HR.out];exact ⟨rfl,HB2.out⟩
   .have d1:decide (n< -128)=false:=soA;have d2:decide (127<n)=true:=soA;clear ho o1;go_wp2_with fail;refine ⟨rfl,?_⟩;rw [HR.out];exact ⟨rfl,HB2.out⟩
  .have HR:=Hd (show dQ q.bs q.at_= .ok (n,q.at_+8) by unfold dQ;rw [e0];dsimp only;rw [if_neg ho]);have d1:decide (n< -128)=false:=soA;have d2:decide (127<n)=false:=soA;have e2:IntKind.i8.wrap n=n:=(by simp only [IntKind.wrap,IntKind.bits,IntKind.signed];simp;omega);have hx2:Blk w2 xb cs t:=(hg.turn.block xb (VF hxl hb1.size) (by rintro (h|h);exact hxc h;exact hYx h)).trans hx1;have cx:=hx2.rule i;rw [hi] at cx;have fx:=hx2.free;have ht:aJ (fun x=>x=q.c\/x=xb) w w2:=(aJ.of_below (F:=fun x=>x=q.c\/x=xb) hb1).trans hg.turn fun x hx=>by
    rcases hx with rfl|rfl
    .exact .inl (.inl rfl)
    .exact .inr (by have:=HY.out;omega)
   have hat:=hg.at';clear hg ho e0;go_wp2_with fail;refine WF (v:= .tuple #[]) (Wx rfl _ _ _) rfl ?_;rw [HR.out];refine ⟨rfl,hat.keep (VU _ _ _ _ (Vf hxc)) ((AT _ _).setCell hxB _),ht.setCell (.inl (.inr rfl)) _,?_⟩;exact hx2.set i (.int .i8 n)
 .obtain ⟨rfl,hb2⟩:=h1 oA;have hbel2:gq w q w2 xb t:=gq.loc hb1 hb2 (VR HY.out.symm) rfl hxc hxl;have HR:=Hd (show dQ q.bs q.at_= .error q.bs.length by unfold dQ bB;rw [if_pos oA]);clear h1 h2;go_wp2_with fail;refine ⟨rfl,?_⟩;rw [HR.out];exact ⟨rfl,hbel2⟩
section
variable {α:Type} {B:Nat} {w w':World} {q:RC} {r:Rd α} {f:α->Array Value} {xb:Nat} {t:TypeId} {e:Ending}
theorem JP.err (h:JP B w q r f xb t e w') {p:Nat} (hr:r= .error p):e= .panicked (lU p)/\gq w q w' xb t:=by subst hr;exact h
theorem JP.ok (h:JP B w q r f xb t e w') {v:α} {a:Nat} (hr:r= .ok (v,a)):e= .returned (.tuple #[])/\lO B w q w' (q.to a) xb (f v) t:=by subst hr;exact h
end
theorem lO.pre {B:Nat} {w0 w w':World} {q q':RC} {xb:Nat} {cs:Array Value} {t:TypeId} (h:lO B w q w' q' xb cs t) (hb:Below w0.heap.size w0 w):lO B w0 q w' q' xb cs t:=
 ⟨h.at',(aJ.of_below (F:=fun x=>x=q.c\/x=xb) hb).trans h.turn (fun _ hk=> .inl hk),h.blk⟩
theorem vZ {α:Type} (bs:List UInt8) (a:Nat) (K:Int->Int->Nat->Rd α) (h:bs.length<a+8*2):(thn (bB bs a) fun i a=>thn (bB bs a) fun c a=>K i c a)= .error bs.length:=by
 unfold bB;by_cases h1:bs.length<a+8
 .rw [if_pos h1];rfl
 .rw [if_neg h1];dsimp only [thn];rw [if_pos oA]
theorem BG {α:Type} (bs:List UInt8) (a:Nat) (K:Int->Int->Nat->Rd α) (h:a+8*2<=bs.length):(thn (bB bs a) fun i a=>thn (bB bs a) fun c a=>K i c a)=K (gK bs a) (gK bs (a+8)) (a+8*2):=by
 unfold bB;rw [if_neg oA];dsimp only [thn];rw [if_neg oA];rfl
theorem Hz {α:Type} (bs:List UInt8) (a:Nat) (K:Int->Int->Int->Nat->Rd α) (h:bs.length<a+8*3):(thn (bB bs a) fun i a=>thn (bB bs a) fun c a=>thn (bB bs a) fun d a=>K i c d a)= .error bs.length:=by
 by_cases h1:bs.length<a+8
 .unfold bB;rw [if_pos h1];rfl
 .have:bB bs a= .ok (gK bs a,a+8):=(by unfold bB;rw [if_neg h1];rfl);rw [this];dsimp only [thn];exact vZ bs (a+8) (fun c d a'=>K _ c d a') oA
theorem KG {α:Type} (bs:List UInt8) (a:Nat) (K:Int->Int->Int->Nat->Rd α) (h:a+8*3<=bs.length):(thn (bB bs a) fun i a=>thn (bB bs a) fun c a=>thn (bB bs a) fun d a=>K i c d a)=K (gK bs a) (gK bs (a+8)) (gK bs (a+16)) (a+8*3):=by
 have:bB bs a= .ok (gK bs a,a+8):=(by unfold bB;rw [if_neg oA];rfl);rw [this];dsimp only [thn];exact BG bs (a+8) (fun c d a'=>K _ c d a') oA
theorem qX (a:BitVec 64):eO a.toInt:=by
 have h1:=Xh (x:=a);have h2:=Xi (x:=a);simp only [eO,Lit.wf,IntKind.min,IntKind.max,IntKind.signed,IntKind.bits];simp at h1 h2⊢;omega
theorem gH (bs:List UInt8) (a:Nat):eO (gK bs a):=qX _
theorem BC {bs:List UInt8} {a:Nat} {u:bK} {b:Nat} (h:fi bs a= .ok (u,b)):u.wf:=by
 unfold fi at h;by_cases hm:a+8*2<=bs.length
 .rw [BG bs a (fun i c a=> .ok ((⟨i,c⟩:bK),a)) hm] at h;cases h;exact ⟨gH _ _,gH _ _⟩
 .rw [vZ bs a (fun i c a=> .ok ((⟨i,c⟩:bK),a)) oA] at h;cases h
theorem KP (w:World) (B:Nat) (q:RC) (xb i:Nat) (cs:Array Value) (t:TypeId) (u0:bK) (hq:RAt w B q) (hB:B<=w.heap.size) (hx:Blk w xb cs t) (hi:yO cs i u0.cells) (hxB:B<=xb) (hxc:xb≠q.c):
  Calls prog 150 #[.pointer (some ⟨q.c,0,none⟩),.pointer (some ⟨xb,i,none⟩)] w (JP B w q (fi q.bs q.at_) (fun u=>dX cs i u.cells) xb t):=by
 have hi3:∀j,j<2->∃v,cs[i+j]? =some (.int .i64 v):=fun j hj=>by
  have:=hi j (by show j<2;omega);rcases (show j=0\/j=1 by omega) with rfl|rfl
  .exact ⟨_,this⟩
  .exact ⟨_,this⟩
 have hxcl:=hq.blk.lt;have hxl:=hx.lt;go_enter func150,ntmps150;go_wp2_with fail;refine aj false (aq (fun _=>False)) (aq.refl _) (fun _ _ _ h1 h2=>aq.trans h1 h2) (.step 0 (.step 1 (.step 2 (.step 3 (.step 4 (.step 5 (.step 6 (.step 7 (.step 8 .done))))))))) krA krA cdA ?_
 repeat (first|refine tsA ?_|refine tqA ?_)
 refine an rfl rfl rfA (fun K hK=> ?_);go_wp2_with fail;refine hK _ _ ⟨skA,fun _ h=>h.elim⟩ ?_;clear hK K
 repeat (first|refine tsA ?_|refine tqA ?_)
 refine an rfl rfl rfA (fun K hK=> ?_);go_wp2_with fail;have hb1:Below w.heap.size w (w.alloc (.cells #[.pointer (some ⟨xb,i,none⟩),.pointer (some ⟨xb,i+1,none⟩)] 209)).drew:=cL;have cb:=Gg _ B q w.heap.size 2 xb i cs _ (hq.old hb1 hB) (At hB hb1.size) (Blk.new w #[.pointer (some ⟨xb,i,none⟩),.pointer (some ⟨xb,i+1,none⟩)] 209).drew (Nat.ne_of_gt hq.blk.lt) (Nat.ne_of_gt hx.lt) (hx.old hb1) hi3 hxB hxc oA;refine cb.mono ?_;clear cb;rintro e w2 ⟨h1,h2⟩;by_cases hmore:q.at_+8*2<=q.bs.length
 .obtain ⟨rfl,hg⟩:=h2 hmore;have hz2:=hg.turn.size;replace hg:=hg.pre hb1;have HR:=Hd (show fi q.bs q.at_= .ok (⟨gK q.bs q.at_,gK q.bs (q.at_+8)⟩,q.at_+8*2) from BG q.bs q.at_ (fun i c a=> .ok ((⟨i,c⟩:bK),a)) hmore);clear h1 h2;go_wp2_with fail;refine hK _ _ ⟨by simpa using hz2,fun _ h=>h.elim⟩ ?_;clear hK K;refine ap ?_;go_wp2_with fail;refine WF (v:= .tuple #[]) (Wx rfl _ _ _) rfl ?_;rw [HR.out];exact ⟨rfl,hg⟩
 .obtain ⟨rfl,hb2⟩:=h1 oA;have HR:=Hd (show fi q.bs q.at_= .error q.bs.length by unfold fi;exact vZ q.bs q.at_ _ oA);have hb3:=gq.pre hb1 hb2;clear h1 h2 hK;go_wp2_with fail;refine ⟨rfl,?_⟩;rw [HR.out];exact ⟨rfl,hb3⟩
end
end Go.Proofs.YtioigihakjlopaaGreat
