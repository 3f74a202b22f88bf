import Derived.Test.YtioigihakjlopaaGreatVR12
import Derived.DeepKeys4
import Derived.RangeFuncNested
import Derived.RangeFuncBound
import Derived.RangeFuncCalls
import Derived.RangeFuncLeaves
import Derived.Below
import Derived.OrdersIn
import Derived.Sort.QuietIn
import Derived.Sort.CutIn
import Derived.OwnWalkIn
import Derived.TacticsInMore
import Derived.LoopNIn
import Derived.LoopIn
namespace Go.Proofs.YtioigihakjlopaaGreat
open Go.Proofs.Tryz
set_option linter.unusedVariables false
set_option linter.unusedSimpArgs false
set_option maxHeartbeats 16000000
set_option maxRecDepth 100000
section
open Go.RowKit Go.Maps
theorem FG (w:As) (B:Nat) (r:cz) (n:Int) (pa:Lt) (D pc:Nat) (plan:ef) (h:cS w B r) (hB:B<=w.heap.size) (X:n<=9223372036854775807) (hp:av w pa (plan.flatMap dH)) (O:plan.length=D) (o:D*24<=140737488355328) (q:plan≠ []->∀I,pa=some I->I.block≠r.d):
  Calls prog 37 #[.pointer (some ⟨r.d,0,none⟩),.int .i64 n,.slice pa D pc] w fun e w'=>e= .returned (.int .i64 (rO r.p n plan).2)/\∃r',r'.p=(rO r.p n plan).1/\cj B w r w' r':=by
 have J:=Hd O;clear O;have G:=h.blk.rule;have s:=h.blk.free;unfold cF at G;cases E:r.down with
 |true=>
  rw [E] at G;have A:=Hd (show rO r.p n plan=(r.p,5) by simp [rO,cz.p,E]);go_enter func37,ntmps37;go_wp2_with fail;go_ret;exact ⟨by rw [A.out];rfl,r,by rw [A.out],cj.refl h⟩
 |false=>
  rw [E] at G;by_cases Y:n<0
  .have A:=Hd (show rO r.p n plan=(r.p,2) by simp [rO,cz.p,E,Y]);go_enter func37,ntmps37;go_wp2_with fail;go_ret;exact ⟨by rw [A.out];rfl,r,by rw [A.out],cj.refl h⟩
  .have A:=Hd (show rO r.p n plan=({r.p with armed:=true,left:=n,plan:=plan},0) by simp [rO,cz.p,E,Y]);have g:Blk ((w.setCell ⟨r.d,2,none⟩ (.bool true)).setCell ⟨r.d,3,none⟩ (.int .i64 n)) r.d (cF {r with armed:=true,left:=n}) 49:=by
    have:=((h.blk.set 2 (.bool true)).set 3 (.int .i64 n));unfold cF;exact this
   have R:∀x,x≠r.d->((w.setCell ⟨r.d,2,none⟩ (.bool true)).setCell ⟨r.d,3,none⟩ (.int .i64 n)).heap[x]? =w.heap[x]? :=fun x hx=>by
    rw [Vq _ _ _ _ hx,Vq _ _ _ _ hx]
   have Z:=h.head {r with armed:=true,left:=n} rfl rfl rfl rfl rfl rfl rfl ⟨by show 0<=n;omega,X⟩ g R;have y:av ((w.setCell ⟨r.d,2,none⟩ (.bool true)).setCell ⟨r.d,3,none⟩ (.int .i64 n)) pa (plan.flatMap dH):=by
    by_cases S:plan=[]
    .subst S;exact av.nil _ _
    .exact hp.keepAt fun x hx=>R _ (q S x hx)
   have T:cj B w r _ {r with armed:=true,left:=n}:=⟨aJ.setCell (aJ.setCell (aJ.refl _ _) (x:=⟨r.d,2,none⟩) (.inl (.inl rfl)) _) (x:=⟨r.d,3,none⟩) (.inl (.inl rfl)) _,Z,fun x hx=> .inl hx,rfl⟩;have U:=Hd T;clear T E;go_enter func37,ntmps37;go_wp2_with fail;refine (xC pa D pc plan _ y J.out o).mono ?_;rintro e w1 ⟨a',c',rfl,H,W⟩;have C:=Z.old W;have c0:=C.blk.rule;have c1:=C.blk.free;unfold cF at c0;clear G s;go_wp2_with fail;go_ret;have j:Blk (w1.setCell ⟨r.d,4,none⟩ (.slice a' D c')) r.d (cF {r with armed:=true,left:=n,pa:=a',pc:=c',plan:=plan}) 49:=by
    have:=C.blk.set 4 (.slice a' D c');unfold cF;dsimp only;rw [J.out];exact this
   have L:∀x,x≠r.d->(w1.setCell ⟨r.d,4,none⟩ (.slice a' D c')).heap[x]? =w1.heap[x]? :=fun x hx=>Vq _ _ _ _ hx;have M:∀{b:Nat} {cs:AS} {t:TypeId},Blk w1 b cs t->t≠49->b≠r.d:=fun A0 ht=>Blk.ne A0 C.blk ht;refine ⟨by rw [A.out];rfl,{r with armed:=true,left:=n,pa:=a',pc:=c',plan:=plan},by rw [A.out];rfl,U.out.trans ⟨?_,?_,?_,rfl⟩⟩
   .exact (aJ.of_below W).setCell (x:=⟨r.d,4,none⟩) (.inl (.inl rfl)) _
   .refine ⟨h.ged,j,C.row.keepAt fun x hx=>L _ ?_,fun f c=>(C.files f c).keepAt fun x hx=>L _ ?_,?_,⟨h.ok.names,h.ok.named,h.ok.sure,h.ok.size,h.ok.count,⟨by show 0<=n;omega,X⟩⟩⟩
    .obtain ⟨_,_,_,N⟩:=C.row.block_lt hx;exact M N dcA
    .obtain ⟨_,_,_,N⟩:=(C.files f c).block_lt hx;exact M N dcA
    .show Own _ B 130 2 a' plan.length c' (plan.flatMap dH);rw [J.out];exact (H.lower (Vd hB U.out.turn.size)).keepAt fun x hx=>L _ (by
      obtain ⟨_,_,A1,m⟩:=H.block_lt hx;exact M m dcA)
   .rintro x (hx|hx|hx|⟨I,ha,rfl⟩)
    .exact .inl (.inl hx)
    .exact .inl (.inr (.inl hx))
    .exact .inl (.inr (.inr (.inl hx)))
    .exact .inr (H.block_lt ha).1
theorem Dk {r:cz} {nm:bB} {f:dg} (A:r.down=false) (C:fF r.p nm=some f.p) (g:dJ->aN×Int):mp r.p nm g=g f.p:=by
 unfold mp;rw [VV (by simp [cz.p,A]),C]
theorem vo (w:As) (B:Nat) (r:cz) (nm:bB) (h:cS w B r) (hB:B<=w.heap.size):
  Calls prog 117 #[.pointer (some ⟨r.d,0,none⟩),.string nm] w fun e w'=>e= .returned (.int .i64 (et r.p nm).2)/\∃r',r'.p=(et r.p nm).1/\cj B w r w' r':=by
 have J:=tU w B r nm h;have B0:r.fs.length<=64:=(by have:=h.ok.count;simpa [cz.p] using this);rcases pD r nm with ⟨D,G,H⟩|⟨D,T,G,H,M⟩|⟨k,hk,D,T,G,H,M⟩
 .rw [G,H] at J;have C:=Hd (show et r.p nm=(r.p,5) by unfold et mp;rw [Vz (show r.p.down=true from D)]);clear G H D;go_enter func117,ntmps117;go_wp2_with fail;refine J.mono ?_;rintro e w' ⟨rfl,rfl⟩;go_wp2_with fail;go_ret;exact ⟨by rw [C.out];first|rfl|simp,r,by rw [C.out],cj.refl h⟩
 .rw [G,H] at J;have C:=Hd (show et r.p nm=(r.p,4) by unfold et mp;rw [VV (by simp [cz.p,D]),M]);clear T G H M D;go_enter func117,ntmps117;go_wp2_with fail;refine J.mono ?_;rintro e w' ⟨rfl,rfl⟩;go_wp2_with fail;go_ret;exact ⟨by rw [C.out];first|rfl|simp,r,by rw [C.out],cj.refl h⟩
 .rw [G,H] at J;have C:=Hd (show et r.p nm=if (dL r.p).2=0 then (kF (dL r.p).1 nm fun f=>{f with sure:=f.b.length},0) else dL r.p by unfold et;rw [Dk D M]);have A3:=vt w B r h hB;have HD:=Hd D;have HN:=Hd T;clear T G H M D;go_enter func117,ntmps117;go_wp2_with fail;refine J.mono ?_;rintro e w' ⟨rfl,rfl⟩;go_wp2_with fail;refine A3.mono ?_;rintro e w1 ⟨rfl,hr⟩;obtain ⟨A,t,S,X⟩:=hr HD.out;clear hr;have y:=Hd t;clear t;by_cases I:(dL r.p).2=0
  .obtain ⟨N,e2,e3⟩:=X I;rw [I];clear X;have O:=Hd I;clear I;have E:=S.at';have L:k<A.fs.length:=(by rw [N];exact hk);obtain ⟨g,R,c0,j,c2⟩:=E.elem k L;have B1:=Hd N;have A0:w1.cell? ⟨r.d,0,none⟩=some (.slice (some ⟨g,0,none⟩) r.fs.length A.lc):=by
    have:=E.blk.rule 0;unfold cF at this;rw [S.d,R,N] at this;exact this
   have A4:=E.files _ (VQ L);have A5:A.fs[k].b.length<=1048576:=E.ok.size A.fs[k].p (VH.2 ⟨_,VQ L,rfl⟩);have s:A.fs[k].nm=nm:=(by rw [<-HN.out];simp only [N]);have Y:cz.p {A with fs:=A.fs.set k {A.fs[k] with sure:=A.fs[k].b.length}}=kF A.p nm (fun q=>{q with sure:=q.b.length}):=by
    rw [cz.p_set L E.nd (fun q=>{q with sure:=q.b.length}) _ rfl,s]
   have A6:=Hd Y;have A7:=Hd (E.onlySure L R A.fs[k].b.length (by
    rw [Y];refine E.ok.upd _ _ (fun _ _=>rfl) (fun q hq A8=>VU _) (fun q hq A8=>E.ok.size q hq)))
   clear Y s N e2 e3 c0;obtain ⟨_,_,B2,A1⟩:=E.row.block_lt R;have A9:=A1.free;have HG:=Hd R;clear R;obtain ⟨f,m⟩:=At (A.fs[k]);rw [<-m] at j c2 A4 A5;have B3:w1.drew.cell? ⟨g,k*3+2,none⟩=some (.int .i64 (f.sure:Int)):=c2;have HF:=Hd m;clear m;go_wp2_with fail;have l0:∀W,Old w1.drew W->W.cell? ⟨r.d,0,none⟩=some (.slice (some ⟨g,0,none⟩) r.fs.length A.lc):=fun W o=>((o:Below w1.drew.heap.size _ W).cell (p:=⟨r.d,0,none⟩) (Vx w1 _ A0)).trans A0;have l1:∀W,Old w1.drew W->W.cell? ⟨g,k*3+1,none⟩=some (.slice f.a f.b.length f.c):=fun W o=>((o:Below w1.drew.heap.size _ W).cell (p:=⟨g,k*3+1,none⟩) (Vx w1 _ j)).trans j;have f0:∀i,w1.drew.frozen? ⟨g,i,none⟩=false:=A9;refine ah true Old Old.refl Old.trans (.step 0 (.step 1 (.step 2 (.step 3 (.step 4 (.step 5 (.step 6 (.step 7 (.step 8 (.step 9 (.step 10 (.step 11 (.step 12 (.step 13 (.step 14 (.step 15 (.step 16 .done))))))))))))))))) krA krA cdA ?_
   repeat refine txA ?_
   refine az rfl rfl rfA (fun K hK=> ?_);go_wp2_with fail;refine aq ?_;go_wp2_with fail;go_ret;have A2:cz.p {A with fs:=A.fs.set k {f with sure:=f.b.length}}=kF A.p nm (fun q=>{q with sure:=q.b.length}):=by
    have:=A6.out;rw [<-HF.out] at this;exact this
   have U:cj B w1 A (w1.setCell ⟨g,k*3+2,none⟩ (.int .i64 (f.b.length:Int))) {A with fs:=A.fs.set k {f with sure:=f.b.length}}:=by
    have:=A7.out;rw [<-HF.out] at this;exact this
   refine ⟨by rw [C.out,Vz O.out];first|rfl|simp,{A with fs:=A.fs.set k {f with sure:=f.b.length}},?_,S.trans ⟨U.turn.drewN 1,U.at'.keep fun _ _=>rfl,U.foot',U.d⟩⟩;rw [C.out,Vz O.out,A2,y.out]
  .have t0:decide ((dL r.p).2=0)=false:=(by simpa using I);have O:=Hd I;clear X;obtain ⟨v,Z⟩:=At ((dL r.p).2);rw [<-Z] at I⊢;have BY:=Hd Z;clear Z t0;go_wp2_with fail;go_ret;refine ⟨?_,A,?_,S⟩
   .rw [C.out,VV O.out,<-BY.out];first|rfl|simp
   .rw [C.out,VV O.out,y.out]
theorem tS (w:As) (B:Nat) (r:cz) (nm:bB) (n:Int) (h:cS w B r) (hB:B<=w.heap.size):
  Calls prog 44 #[.pointer (some ⟨r.d,0,none⟩),.string nm,.int .i64 n] w fun e w'=>e= .returned (.int .i64 (jF r.p nm n).2)/\∃r',r'.p=(jF r.p nm n).1/\cj B w r w' r':=by
 have E:=tU w B r nm h;have T:=h.blk.rule;unfold cF at T;have B0:r.fs.length<=64:=(by have:=h.ok.count;simpa [cz.p] using this);rcases pD r nm with ⟨D,H,I⟩|⟨D,M,H,I,N⟩|⟨k,L,D,M,H,I,N⟩
 .rw [H,I] at E;have C:=Hd (show jF r.p nm n=(r.p,5) by unfold jF mp;rw [Vz (show r.p.down=true from D)]);clear H I D;go_enter func44,ntmps44;go_wp2_with fail;refine E.mono ?_;rintro e w' ⟨rfl,rfl⟩;go_wp2_with fail;go_ret;exact ⟨by rw [C.out];first|rfl|simp,r,by rw [C.out],cj.refl h⟩
 .rw [H,I] at E;have C:=Hd (show jF r.p nm n=(r.p,4) by unfold jF mp;rw [VV (by simp [cz.p,D]),N]);clear M H I N D;go_enter func44,ntmps44;go_wp2_with fail;refine E.mono ?_;rintro e w' ⟨rfl,rfl⟩;go_wp2_with fail;go_ret;exact ⟨by rw [C.out];first|rfl|simp,r,by rw [C.out],cj.refl h⟩
 .rw [H,I] at E;obtain ⟨g,m,c0,U,c2⟩:=h.elem k L;have Y:=h.files _ (VQ L);have A6:r.fs[k].b.length<=1048576:=h.ok.size r.fs[k].p (VH.2 ⟨_,VQ L,rfl⟩);have C:=Hd (show jF r.p nm n=if n<0\/(r.fs[k].b.length:Int)<n then (r.p,2) else (kF r.p nm fun f=>{f with b:=f.b.take n.toNat,sure:=n.toNat},0) by unfold jF;rw [Dk D N];rfl);obtain ⟨f,o⟩:=At (r.fs[k]);rw [<-o] at c0 U c2 Y A6 M C;have O:=Hd o;have HN:=Hd M;have HD:=Hd D;have HG:=Hd m;rw [m] at T;clear M H I N D o m c0;by_cases A1:n<0
  .have G:=Hd (show jF r.p nm n=(r.p,2) by rw [C.out];exact Vz (.inl A1));go_enter func44,ntmps44;go_wp2_with fail;refine E.mono ?_;rintro e w' ⟨rfl,rfl⟩;go_wp2_with fail;go_ret;exact ⟨by rw [G.out];first|rfl|simp,r,by rw [G.out],cj.refl h⟩
  .by_cases hn1:(f.b.length:Int)<n
   .have G:=Hd (show jF r.p nm n=(r.p,2) by rw [C.out];exact Vz (.inr hn1));go_enter func44,ntmps44;go_wp2_with fail;refine E.mono ?_;rintro e w' ⟨rfl,rfl⟩;go_wp2_with fail;go_ret;exact ⟨by rw [G.out];first|rfl|simp,r,by rw [G.out],cj.refl h⟩
   .obtain ⟨A,rfl⟩:∃A:Nat,n=(A:Int):=⟨n.toNat,oA⟩;have B1:A<=f.b.length:=oA;have G:=Hd (show jF r.p nm (A:Int)=(kF r.p nm fun f=>{f with b:=f.b.take A,sure:=A},0) by rw [C.out];exact VV oA);clear A1 C;have B3:f.b.length<=f.c:=Y.le;go_enter func44,ntmps44;go_wp2_with fail;refine E.mono ?_;rintro e w' ⟨rfl,rfl⟩;have s:w'.cell? ⟨r.d,0,none⟩=some (.slice (some ⟨g,0,none⟩) r.fs.length r.lc):=T 0;have hcut:=rY (P:=prog) (t:=22) underlying22 krA f.a f.b.length f.c A oA;clear T;go_wp2_with fail;have Z:∀W,Old w'.drew W->∀b i (v:Value),w'.cell? ⟨b,i,none⟩=some v->W.cell? ⟨b,i,none⟩=some v:=fun W R b i v hv=>((R:Below w'.drew.heap.size _ W).cell (p:=⟨b,i,none⟩) (Vx w' _ hv)).trans hv;have l0:∀W,Old w'.drew W->W.cell? ⟨r.d,0,none⟩=some (.slice (some ⟨g,0,none⟩) r.fs.length r.lc):=fun W R=>Z W R _ 0 _ s;have l1:∀W,Old w'.drew W->W.cell? ⟨g,k*3+1,none⟩=some (.slice f.a f.b.length f.c):=fun W R=>Z W R _ (k*3+1) _ U;clear Z;refine ah true Old Old.refl Old.trans (.step 0 (.step 1 (.step 2 (.step 3 (.step 4 (.step 5 (.step 6 (.step 7 (.step 8 (.step 9 (.step 10 (.step 11 (.step 12 (.step 13 (.step 14 (.step 15 (.step 16 (.step 17 (.step 18 .done))))))))))))))))))) krA krA cdA ?_
    repeat refine txA ?_
    have A7:aj w'.drew f.a (f.b.take A):=by
     have:=(av.take A Y.row);rw [<-WB] at this;exact this
    refine am rfl rfl rfA (fun K y=> ?_);go_wp2_with fail;refine (kj f.a A f.c (f.b.take A) _ A7 (by rw [ltA];omega) oA).mono ?_;rintro e w3 ⟨a3,c3,rfl,A4,A2⟩;go_wp2_with fail;refine y _ _ A2 ?_;clear y K l0 l1
    repeat refine txA ?_
    have J:Below w'.heap.size w' w3:=aa (VW _ _).drew A2;have S:(f.b.take A).length=A:=(by rw [ltA];omega);have j:cz.p {r with fs:=r.fs.set k ⟨f.nm,a3,c3,f.b.take A,A⟩}=kF r.p nm (fun q=>{q with b:=q.b.take A,sure:=A}):=by
     rw [cz.p_set L h.nd (fun q=>{q with b:=q.b.take A,sure:=A}) _ (by rw [<-O.out];rfl),<-O.out,HN.out]
    have X:=h.both hB L HG.out (w3:=w3) J ⟨f.nm,a3,c3,f.b.take A,A⟩ (by rw [O.out]) (by rw [S];exact A4) (by
     rw [j];refine h.ok.upd _ _ (fun _ _=>rfl) (fun q hq A3=> ?_) (fun q hq A3=> ?_)
     .obtain ⟨f',A8,rfl⟩:=VH.1 hq;have e:f'=r.fs[k]:=cS.same h A8 (VQ L) (by rw [<-O.out,HN.out];exact A3);show A<=(f'.b.take A).length;rw [e,<-O.out,S];exact VU _
     .have:=h.ok.size q hq;show (q.b.take A).length<=_;rw [ltA];omega)
    rw [S] at X;have A5:=Hd X;have A9:=Hd j;obtain ⟨_,_,B2,A0⟩:=(h.row.old (w':=w3) J).block_lt HG.out;have f3:=A0.free;have s3:w3.cell? ⟨g,k*3+1,none⟩=some (.slice f.a f.b.length f.c):=(J.cell (p:=⟨g,k*3+1,none⟩) (Vx w' _ U)).trans U;have s4:w3.cell? ⟨g,k*3+2,none⟩=some (.int .i64 (f.sure:Int)):=(J.cell (p:=⟨g,k*3+2,none⟩) (Vx w' _ c2)).trans c2;clear X S j;have BY:r.d≠g:=Blk.ne (h.blk.old J) A0 dcA;have s5:(w3.setCell ⟨g,k*3+1,none⟩ (.slice a3 A c3)).cell? ⟨r.d,0,none⟩=some (.slice (some ⟨g,0,none⟩) r.fs.length r.lc):=(VE (a:=⟨r.d,0,none⟩) (Vq w3 ⟨g,k*3+1,none⟩ r.d _ BY)).trans ((J.cell (p:=⟨r.d,0,none⟩) (Vx w' _ s)).trans s);refine az rfl rfl rfA (fun K y=> ?_);go_wp2_with fail;refine aq ?_;go_wp2_with fail;go_ret;exact ⟨by rw [G.out];first|rfl|simp,_,by rw [G.out];exact A9.out,A5.out.1⟩
theorem Ku:lY prog 118 3:=⟨⟨_,underlying118,rfl⟩,krA⟩
theorem MQ:bC prog 46 118 3 48:=bC.mk (z:= .agg #[.string ⟨#[]⟩,.slice none 0 0,.int .i64 0]) underlying46 krA rfl oA
theorem wt (l:List dg):(l.flatMap aW).length=l.length*3:=by
 induction l with
 |nil=>rfl
 |cons x l ih=>rw [Vn,laA,ih,VC];show 3+_=_;omega
theorem Lo {α:Type} (l:List α) (k j:Nat) (C:j<l.length):(l.take (j+1)).eraseIdx k=if j=k then (l.take j).eraseIdx k else (l.take j).eraseIdx k++ [l[j]]:=by
 rw [Vj C];have A:(l.take j).length=j:=(by rw [ltA];omega);by_cases e:j=k
 .subst e;rw [Vz rfl,YB oA,A,Ye];simp [Yx (show (l.take j).length<=j by omega)]
 .rw [VV e];by_cases h:k<j
  .rw [List.eraseIdx_append_of_lt_length oA]
  .rw [YB oA,A,Yx (show ([l[j]]:List α).length<=k-j by simp;omega),Yx (show (l.take j).length<=k by omega)]
theorem dY.sub {p:aN} (h:dY p) {fs:List dJ} (A:fs.Sublist p.fs):dY {p with fs:=fs}:=
 ⟨(A.map _).nodup h.names,fun f C=>h.named f (A.subset C),fun f C=>h.sure f (A.subset C),fun f C=>h.size f (A.subset C),Vd A.length_le h.count,h.left⟩
section
variable {P:Program}
theorem oO (t ty:TypeId) {e:TypeId} {size bytes:Nat} (hT:bC P t e size bytes) {w:As} {B:Nat} {H:Lt} {n E:Nat} {vs:AT} (h:Own w B e size H n E vs)
  {o:Lt} {m xc:Nat} {A:AT} (X:av w o A) (G:A.length=m*size) (hm:0<m) (q:∀u∈A,u.oneCell'=true) (Y:n+m<=maxLen) (O:(n+m)*bytes<=140737488355328) (hB:B<=w.heap.size):
  ∃b c' w',(Builtin.append_ #[t,t] ty #[.slice H n E,.slice o m xc]).run P w= .ok (.slice (some ⟨b,0,none⟩) (n+m) c') w'/\Own w' B e size (some ⟨b,0,none⟩) (n+m) c' (vs++A)/\w.grownBy w' (Value.slice H n E).ownBlock/\
   ((∃s,H=some s/\b=s.block)\/w.heap.size<=b):=by
 obtain ⟨M,Z,i,z,N,R,U,c,y⟩:=hT;obtain ⟨I,J,rfl,_⟩:=X 0 (by rw [G];exact Nat.mul_pos hm Z);have L:∀j u,A[j]? =some u->w.cell? ((⟨I,J,none⟩:Addr).add j)=some u:=fun j u hu=>by
  obtain ⟨hj,rfl⟩:=Vm.1 hu;obtain ⟨b',o',he,hc⟩:=X j hj;cases he;rw [WA];exact hc
 obtain ⟨v',w2,C,S,T,_⟩:=run_append_own (P:=P) w B t ty e i z size bytes M N R U c y Z (.slice H n E) n vs h ⟨I,J,none⟩ m xc A G L q Y O hB;have A1:n+m<=9223372036854775807:=(by simp only [maxLen] at Y;omega);subst U;subst c
 rcases h.2 with ⟨k1,k2⟩|⟨g,cap,f,k1,A2,hg,A3,A4,hcs,A0⟩
 .simp only [Vi] at k1;obtain ⟨rfl,rfl,rfl⟩:=k1;have hx:vs=[]:=VX (by simpa using h.1);subst hx;have D:=run_append_nil (P:=P) w t ty e i z M N R ⟨I,J,none⟩ m xc A G L oA oA (by have hb:=O;simp only [VN] at hb;omega);rw [D] at C;simp only [ZW] at C;obtain ⟨rfl,rfl⟩:=C;rw [show m=0+m from (VN m).symm] at D;exact ⟨_,_,_,by simpa using D,by simpa [Own] using S,T,.inr (VU _)⟩
 .simp only [Vi] at k1;obtain ⟨rfl,-,rfl⟩:=k1;by_cases W:n+m<=E
  .have hfit:n*i.size+A.length<=f.size:=(by rw [G,hcs,<-XV];exact Ws _ W);have D:=run_append_room (P:=P) w t ty e i M N g n E f hg ⟨I,J,none⟩ m xc A G L q W hfit;rw [D] at C;simp only [ZW] at C;obtain ⟨rfl,rfl⟩:=C;exact ⟨_,_,_,D,S,T,.inl ⟨_,rfl,rfl⟩⟩
  .have D:=run_append_grow (P:=P) w t ty e i z M N R ⟨g,0,none⟩ n E vs h.1 (World.ownsRow.cells h (g:=g) rfl) ⟨I,J,none⟩ m xc A G L oA oA (growslice_fits oA O);rw [D] at C;simp only [ZW] at C;obtain ⟨rfl,rfl⟩:=C;exact ⟨_,_,_,D,S,T,.inr (VU _)⟩
theorem gA {w:As} {o:Oper} {a:Act} {K:Act->World->Prop} {Q:Exit->Act->World->Prop} (s x:Operand) (t:TypeId) (M:o.op= .call {callee:= .builtin .append,args:= #[s,x],argTypes:= #[t,t]})
  {e:TypeId} {size bytes:Nat} (N:bC P t e size bytes) {B:Nat} {C:Lt} {n D:Nat} {vs:AT} (O:a.eval s= .slice C n D) (h:Own w B e size C n D vs)
  {E:Lt} {m xc:Nat} {A:AT} (hx:a.eval x= .slice E m xc) (I:av w E A) (R:A.length=m*size) (S:0<m) (T:∀u∈A,u.oneCell'=true) (L:n+m<=maxLen) (H:(n+m)*bytes<=140737488355328) (U:B<=w.heap.size)
  (W:∀b c' w',Own w' B e size (some ⟨b,0,none⟩) (n+m) c' (vs++A)->w.grownBy w' (Value.slice C n D).ownBlock->((∃G,C=some G/\b=G.block)\/w.heap.size<=b)->K (a.put o.dst (.slice (some ⟨b,0,none⟩) (n+m) c')) w'):o.wp P a w K Q:=by
 obtain ⟨b,c',w',J,X,Y,Z⟩:=oO (P:=P) t o.type N h I R S T L H U (xc:=xc);unfold Oper.wp;simp [execOp,M,resolve,invoke,builtin,O,hx,J,Result.andThen];exact W b c' w' X Y Z
end
def gQ {α:Type} (l:List α) (f:α) (i:Nat):List α:=l.take i++f::l.drop i
theorem ew {α:Type} (l:List α) (f:α) (i:Nat):(gQ l f i).length=l.length+1:=by simp [gQ];omega
theorem DG {α:Type} (l:List α) (f:α):gQ l f l.length=l++ [f]:=by simp [gQ]
theorem sD {α:Type} (l:List α) (f:α) (i:Nat):(gQ l f i).Perm (l++ [f]):=by
 unfold gQ;refine (List.perm_middle).trans ?_;rw [WP];exact (List.perm_append_comm (l₁:=[f]) (l₂:=l))
theorem Gl {α:Type} (l:List α) (f:α) (i:Nat) (A:i<=l.length):(gQ l f i)[i]'(by rw [ew];omega)=f:=by
 unfold gQ;rw [YK soA];simp [Nat.min_eq_left A]
theorem zG {α:Type} (l:List α) (f:α) (i j:Nat) (A:i<=l.length) (C:j<i):(gQ l f i)[j]'(by rw [ew];omega)=l[j]' oA:=by
 unfold gQ;rw [List.getElem_append_left soA];simp
theorem vZ {α:Type} (l:List α) (f:α) (i j:Nat) (C:i<=l.length):(gQ l f i)[j]? =if j<i then l[j]? else if j=i then some f else l[j-1]? :=by
 unfold gQ;have A:(l.take i).length=i:=soA;rcases Nat.lt_trichotomy j i with h|h|h
 .rw [Vz h,Vo oA,List.getElem?_take,Vz h]
 .subst h;rw [VV oA,Vz rfl,Vw oA,A,Ye];rfl
 .rw [VV oA,VV oA,Vw oA,A];obtain ⟨m,rfl⟩:∃m,j=i+1+m:=⟨j-(i+1),oA⟩;rw [show i+1+m-i=m+1 by omega,List.getElem?_cons_succ,Wh];congr 1;omega
theorem AV {α:Type} (l:List α) (f:α) (j:Nat) (A:j<l.length):((gQ l f (j+1)).set (j+1) l[j]).set j f=gQ l f j:=by
 refine Yi fun i=> ?_;rw [List.getElem?_set,List.getElem?_set,vZ _ _ _ _ oA,vZ _ _ _ _ oA];simp only [XZ,ew];rcases Nat.lt_trichotomy i j with h|h|h
 .rw [VV oA,VV oA,Vz oA,Vz oA]
 .subst h;rw [Vz rfl,Vz oA,VV oA,Vz rfl]
 .rw [VV (show ¬j=i by omega),VV (show ¬i<j by omega),VV (show ¬i=j by omega)];by_cases e:j+1=i
  .subst e;rw [Vz rfl,Vz oA,Xm,VJ A]
  .rw [VV e,VV oA,VV oA]
def rK (x y:bB):Bool:=Op.bytesLess x.toList y.toList
theorem dY.perm {p:aN} (h:dY p) {fs:List dJ} (A:fs.Perm p.fs):dY {p with fs:=fs}:=
 ⟨((A.map _).nodup_iff).2 h.names,fun f C=>h.named f (A.mem_iff.1 C),fun f C=>h.sure f (A.mem_iff.1 C),fun f C=>h.size f (A.mem_iff.1 C),by have:=A.length_eq;have:=h.count;show fs.length<=64;omega,h.left⟩
def rm (B:Nat) (w:As) (r:cz) (f:dg) (w':As):Prop:=
 ∃i la lc,i<=r.fs.length/\(i=0\/∃h:i-1<r.fs.length,rK f.nm r.fs[i-1].nm=false)/\(∀j (hj:j<r.fs.length),i<=j->rK f.nm r.fs[j].nm=true)/\
  cS w' B {r with fs:=gQ r.fs f i,la:=la,lc:=lc}/\aJ (fun x=>x=r.d\/∃ad,r.la=some ad/\x=ad.block) w w'/\∀ad,la=some ad->(∃ad',r.la=some ad'/\ad.block=ad'.block)\/w.heap.size<=ad.block
def Gy (b n c:Nat):DU:= .agg [.lit (.int .i64 (b:Int)),.lit (.int .i64 (n:Int)),.lit (.int .i64 (c:Int))]
def Rs (v:Value):Option (DU×List MemPlace):=match v with
 | .slice (some ⟨b,0,none⟩) n c=>some (Gy b n c,[])
 | .slice none 0 0=>some (.agg [],[])
 |_=>none
def Rb (v:Value):Option (DU×List MemPlace):=match v with
 | .pointer (some ⟨b,0,none⟩)=>some (.lit (.int .i64 (b:Int)),[])
 | .pointer none=>some (.agg [],[])
 |_=>none
theorem Qz (b n c:Nat):Rs (.slice (some ⟨b,0,none⟩) n c)=some (Gy b n c,[]):=rfl
theorem zV {v:Value} {b n c:Nat} {ps:List MemPlace} (h:Rs v=some (Gy b n c,ps)):v= .slice (some ⟨b,0,none⟩) n c:=by
 unfold Rs at h;split at h
 .simp only [Gy,Vu,Prod.mk.injEq,DataW.agg.injEq,Wy,DataW.lit.injEq,Lit.int.injEq,ZP,ZA,Int.natCast_inj] at h;obtain ⟨⟨rfl,rfl,rfl⟩,-⟩:=h;rfl
 .simp [Gy] at h
 .cases h
theorem QC (b:Nat):Rb (.pointer (some ⟨b,0,none⟩))=some (.lit (.int .i64 (b:Int)),[]):=rfl
theorem NJ {v:Value} {b:Nat} {ps:List MemPlace} (h:Rb v=some (.lit (.int .i64 (b:Int)),ps)):v= .pointer (some ⟨b,0,none⟩):=by
 unfold Rb at h;split at h
 .simp only [Vu,Prod.mk.injEq,DataW.lit.injEq,Lit.int.injEq,ZP,Int.natCast_inj] at h;rw [h.1]
 .simp at h
 .cases h
theorem kN (w:As):(zeroValue 34).run prog w= .ok (.slice none 0 0) w:=by kernel_rfl
theorem BH (w:As):(zeroValue 102).run prog w= .ok (.pointer none) w:=by kernel_rfl
theorem oV:Keyed prog 3:=int_keyed underlying3
def nR (n:Nat):Lit:= .int .i64 (n:Int)
theorem qK {n:Nat} (h:n<=1000000000000000):keyOf prog 3 (.int .i64 (n:Int))=some (nR n):=keyOf_int_mk underlying3 (gZ h)
theorem pk {a b:Nat}:nR a=nR b↔a=b:=by simp [nR];omega
def atB (a:Lt) (x:Nat):Prop:=∃ad,a=some ad/\x=ad.block
def Hw (h:aY) (x:Nat):Prop:=atB h.d0.a x\/atB h.d1.a x\/atB h.dr.a x\/atB h.act.ids.a x
def qL (h:aY) (x:Nat):Prop:=Hw h x\/atB h.act.pairs.a x
section
variable {w w':As} {B:Nat} {p:ao} {h:aY}
theorem ax.keepB {s:Sl} {l:List Int} (h:ax w B s l) (C:∀x,atB s.a x->w'.heap[x]? =w.heap[x]?):ax w' B s l:=by
 have A:=h.1.keepAt (w':=w') fun x hx=>C _ ⟨x,hx,rfl⟩;exact ⟨A,A.row,h.2.2⟩
theorem aQ.keepB {s:Sl} {l:List ci} (h:aQ w B s l) (C:∀x,atB s.a x->w'.heap[x]? =w.heap[x]?):aQ w' B s l:=by
 have A:=h.1.keepAt (w':=w') fun x hx=>C _ ⟨x,hx,rfl⟩;exact ⟨A,A.row,h.2.2⟩
theorem be.keepB (a:be w B p h) (A:∀x,qL h x->w'.heap[x]? =w.heap[x]?):be w' B p h:=
 ⟨a.kind,a.game,a.table,a.fmt,a.n0,a.n1,a.d0.keepB fun x hx=>A x (.inl (.inl hx)),a.d1.keepB fun x hx=>A x (.inl (.inr (.inl hx))),a.dr.keepB fun x hx=>A x (.inl (.inr (.inr (.inl hx)))),
  ⟨a.act.op,a.act.side,a.act.place,a.act.target,a.act.ids.keepB fun x hx=>A x (.inl (.inr (.inr (.inr hx)))),a.act.pairs.keepB fun x hx=>A x (.inr hx)⟩⟩
theorem be.innerLt (a:be w B p h) {x:Nat} (hx:qL h x):B<=x/\x<w.heap.size/\∃A t,Blk w x A t/\(t=3\/t=157):=by
 have C:∀{s:Sl} {l:List Int},ax w B s l->atB s.a x->B<=x/\x<w.heap.size/\∃A t,Blk w x A t/\(t=3\/t=157):=fun I ⟨J,D,e⟩=>by
  obtain ⟨E,G,A,H⟩:=I.1.block_lt D;subst e;exact ⟨E,G,A,_,H,.inl rfl⟩
 rcases hx with (hx|hx|hx|hx)|⟨J,D,e⟩
 .exact C a.d0 hx
 .exact C a.d1 hx
 .exact C a.dr hx
 .exact C a.act.ids hx
 .obtain ⟨E,G,A,H⟩:=a.act.pairs.1.block_lt D;subst e;exact ⟨E,G,A,_,H,.inr rfl⟩
end
structure aR where
 v:Nat
 ma:Lt
 mc:Nat
 m:Le
 R:jo
 da:Lt
 dc:Nat
 ds:List (ao×aY)
 mg:Nat
 f:Nat->Nat
 fc:Nat->Nat
 mb:Nat
 bl:List (Nat×Nat)
 down:Bool
def aR.l (V:aR):List ao:=V.ds.map Prod.fst
def aV (V:aR):AS:= #[.slice V.ma V.m.length V.mc,.pointer (some ⟨V.R.l,0,none⟩),.slice V.da V.ds.length V.dc,.map (some V.mg),.map (some V.mb),.bool V.down]
def eC (ds:List (ao×aY)):AT:=ds.flatMap fun x=>af x.1 x.2
def gD (l:List ao) (g:Nat):AT:=(bf l (g:Int)).map fun (j:Nat)=>Value.int .i64 (j:Int)
def kJ (l:List ao) (f fc:Nat->Nat):List (Lit×DU):=(List.range (aO l)).map fun g=>(nR g,Gy (f g) (bf l (g:Int)).length (fc g))
def MT (y:Nat×Nat):Lit×DU:=(nR y.1,.lit (.int .i64 (y.2:Int)))
def ej (V:aR) (x:Nat):Prop:=x=V.v\/atB V.ma x\/atB V.da x\/(∃y∈V.ds,qL y.2 x)\/x=V.mg\/x=V.mb\/(∃g,g<aO V.l/\x=V.f g)\/∃y∈V.bl,x=y.2
structure aP (w:As) (B d:Nat) (V:aR):Prop where
 ge:B<=V.v/\B<=V.mg/\B<=V.mb/\V.mg≠V.mb
 blk:Blk w V.v (aV V) 93
 master:Own w B 5 1 V.ma V.m.length V.mc (V.m.map bv)
 mz:V.m.length<=1000000
 log:lL w B d V.R
 deeds:Own w B 40 15 V.da V.ds.length V.dc (eC V.ds)
 each:∀x∈V.ds,be w B x.1 x.2
 gm:iV w prog 3 Rs V.mg (kJ V.l V.f V.fc)
 rows:∀g,g<aO V.l->Own w B 3 1 (some ⟨V.f g,0,none⟩) (bf V.l (g:Int)).length (V.fc g) (gD V.l g)
 sepf:∀g g',g<aO V.l->g'<aO V.l->V.f g=V.f g'->g=g'
 sepi:∀g,g<aO V.l->∀x∈V.ds,¬Hw x.2 (V.f g)
 bm:iV w prog 3 Rb V.mb (V.bl.map MT)
 boxes:∀y∈V.bl,B<=y.2/\y.1<=4096/\fZ w y.2 V.m y.1
 sepl:∀x,ej V x->¬dP V.R x
 good:nr V.l
 cnt:V.ds.length<=V.R.ls.length
section
variable {w w' w'':As} {B d:Nat} {V V' V'':aR} {r r' r'':aG}
theorem aR.len (V:aR):V.l.length=V.ds.length:=lmA ..
theorem aP.small (h:aP w B d V):V.ds.length<=4096/\aO V.l<=4096/\∀g,(bf V.l g).length<=4096:=by
 have D:=h.cnt;have E:=h.log.cnt;have A:=mZ V.l;rw [V.len] at A;refine ⟨oA,oA,fun g=> ?_⟩;have C:=Dc V.l g;rw [V.len] at C;rw [fl];omega
theorem aP.keep (h:aP w B d V) (A:∀x,dP V.R x\/ej V x->w'.heap[x]? =w.heap[x]?):aP w' B d V:=
 ⟨h.ge,(A _ (.inr (.inl rfl))).trans h.blk,h.master.keepAt fun x hx=>A _ (.inr (.inr (.inl ⟨x,hx,rfl⟩))),h.mz,h.log.keep fun x hx=>A _ (.inl hx),
  h.deeds.keepAt fun x hx=>A _ (.inr (.inr (.inr (.inl ⟨x,hx,rfl⟩)))),fun x hx=>(h.each x hx).keepB fun y C=>A _ (.inr (.inr (.inr (.inr (.inl ⟨x,hx,C⟩))))),
  h.gm.keep (A _ (.inr (.inr (.inr (.inr (.inr (.inl rfl))))))),fun g D=>(h.rows g D).keepAt fun x hx=>A _ (.inr (.inr (.inr (.inr (.inr (.inr (.inr (.inl ⟨g,D,by cases hx;rfl⟩)))))))),
  h.sepf,h.sepi,h.bm.keep (A _ (.inr (.inr (.inr (.inr (.inr (.inr (.inl rfl)))))))),fun y C=>⟨(h.boxes y C).1,(h.boxes y C).2.1,(A _ (.inr (.inr (.inr (.inr (.inr (.inr (.inr (.inr ⟨y,C,rfl⟩))))))))).trans (h.boxes y C).2.2⟩,h.sepl,h.good,h.cnt⟩
theorem aP.ltR (h:aP w B d V) {x:Nat} (hx:ej V x):B<=x/\x<w.heap.size:=by
 rcases hx with rfl|⟨G,A,rfl⟩|⟨G,A,rfl⟩|⟨y,C,D⟩|rfl|rfl|⟨g,E,rfl⟩|⟨y,C,rfl⟩
 .exact ⟨h.ge.1,h.blk.lt⟩
 .exact ⟨(h.master.block_lt A).1,(h.master.block_lt A).2.1⟩
 .exact ⟨(h.deeds.block_lt A).1,(h.deeds.block_lt A).2.1⟩
 .exact ⟨((h.each y C).innerLt D).1,((h.each y C).innerLt D).2.1⟩
 .exact ⟨h.ge.2.1,h.gm.lt⟩
 .exact ⟨h.ge.2.2.1,h.bm.lt⟩
 .exact ⟨((h.rows g E).block_lt rfl).1,((h.rows g E).block_lt rfl).2.1⟩
 .exact ⟨(h.boxes y C).1,(h.boxes y C).2.2.lt⟩
theorem aP.lt (h:aP w B d V) {x:Nat} (hx:dP V.R x\/ej V x):B<=x/\x<w.heap.size:=hx.elim h.log.lt h.ltR
theorem aP.old (h:aP w B d V) (A:Below w.heap.size w w'):aP w' B d V:=h.keep fun x hx=>A.block x (h.lt hx).2
structure VL (w:As) (B:Nat) (r:aG) (V:aR):Prop where
 disk:aK w B r
 vault:aP w B r.d V
 apart:∀x,dP V.R x\/ej V x->¬fp r x
def iT (r:aG) (V:aR) (x:Nat):Prop:=fp r x\/dP V.R x\/ej V x
theorem VL.keep (h:VL w B r V) (A:∀x,iT r V x->w'.heap[x]? =w.heap[x]?):VL w' B r V:=⟨h.disk.keep fun x hx=>A x (.inl hx),h.vault.keep fun x hx=>A x (.inr hx),h.apart⟩
theorem VL.lt (h:VL w B r V) {x:Nat} (hx:iT r V x):B<=x/\x<w.heap.size:=hx.elim h.disk.lt h.vault.lt
theorem VL.old (h:VL w B r V) (A:Below w.heap.size w w'):VL w' B r V:=h.keep fun x hx=>A.block x (h.lt hx).2
theorem VL.dl (h:VL w B r V):DL w B r V.R:=⟨h.disk,h.vault.log,fun x hx=>h.apart x (.inl hx)⟩
structure ik (B:Nat) (w:As) (r:aG) (V:aR) (w':As) (r':aG) (V':aR):Prop where
 turn:aJ (iT r V) w w'
 at':VL w' B r' V'
 foot':∀x,iT r' V' x->iT r V x\/w.heap.size<=x
 d:r'.d=r.d
 v:V'.v=V.v
 m:V'.m=V.m
theorem ik.trans (h:ik B w r V w' r' V') (h':ik B w' r' V' w'' r'' V''):ik B w r V w'' r'' V'':=
 ⟨h.turn.trans h'.turn h.foot',h'.at',fun x hx=>by
  rcases h'.foot' x hx with A|A
  .exact h.foot' x A
  .exact .inr (Vd h.turn.size A),h'.d.trans h.d,h'.v.trans h.v,h'.m.trans h.m⟩
theorem ik.below (h:ik B w r V w' r' V') (A:VL w B r V) (C:B<=w.heap.size):Below B w w':=h.turn.below (fun _ hx=>(A.lt hx).1) C
theorem ik.old (h:VL w B r V) (A:Below w.heap.size w w'):ik B w r V w' r V:=⟨aJ.of_below A,h.old A,fun _ hx=> .inl hx,rfl,rfl,rfl⟩
structure iJ (B d:Nat) (w:As) (V:aR) (w':As) (V':aR):Prop where
 turn:aJ (ej V) w w'
 at':aP w' B d V'
 foot':∀x,ej V' x->ej V x\/w.heap.size<=x
 R:V'.R=V.R
 v:V'.v=V.v
 m:V'.m=V.m
 down:V'.down=V.down
theorem iJ.refl (h:aP w B d V):iJ B d w V w V:=⟨aJ.refl _ _,h,fun _ hx=> .inl hx,rfl,rfl,rfl,rfl⟩
theorem iJ.old (h:aP w B d V) (A:Below w.heap.size w w'):iJ B d w V w' V:=⟨aJ.of_below A,h.old A,fun _ hx=> .inl hx,rfl,rfl,rfl,rfl⟩
theorem iJ.trans (h:iJ B d w V w' V') (h':iJ B d w' V' w'' V''):iJ B d w V w'' V'':=
 ⟨h.turn.trans h'.turn h.foot',h'.at',fun x hx=>by
  rcases h'.foot' x hx with A|A
  .exact h.foot' x A
  .exact .inr (Vd h.turn.size A),h'.R.trans h.R,h'.v.trans h.v,h'.m.trans h.m,h'.down.trans h.down⟩
theorem iJ.step (A:iJ B r.d w V w' V') (h:VL w B r V):ik B w r V w' r V':=by
 refine ⟨A.turn.mono fun x hx=> .inr (.inr hx),⟨h.disk.turn A.turn fun x hx D=>h.apart x (.inr D) hx,A.at',fun x hx C=> ?_⟩,fun x hx=> ?_,rfl,A.v,A.m⟩
 .rcases hx with hx|hx
  .exact h.apart x (.inl (by rw [A.R] at hx;exact hx)) C
  .rcases A.foot' x hx with h1|h1
   .exact h.apart x (.inr h1) C
   .have:=(h.disk.lt C).2;omega
 .rcases hx with hx|hx|hx
  .exact .inl (.inl hx)
  .exact .inl (.inr (.inl (by rw [A.R] at hx;exact hx)))
  .exact (A.foot' x hx).imp (fun h=> .inr (.inr h)) id
theorem iU.vault (A:iU B w r V.R w' r' V'.R) (h:VL w B r V) (G:V'={V with R:=V'.R}) (N:V.ds.length<=V'.R.ls.length):ik B w r V w' r' V':=by
 have I:∀x,ej V' x↔ej V x:=fun x=>(by rw [G];rfl);have C:∀x,ej V x->w'.heap[x]? =w.heap[x]? :=fun x hx=>A.turn.block x (h.vault.ltR hx).2 fun O=>O.elim (fun D=>h.apart x (.inr hx) D) (h.vault.sepl x hx);have H:∀x,ej V x->¬(fp r' x\/dP V'.R x):=fun x hx D=>by
  rcases A.foot' x D with J|J
  .exact J.elim (fun D=>h.apart x (.inr hx) D) (h.vault.sepl x hx)
  .have:=(h.vault.ltR hx).2;omega
 have M:aP w' B r'.d V':=by
  rw [G];refine ⟨h.vault.ge,?_,h.vault.master.keepAt fun x hx=>C _ (.inr (.inl ⟨x,hx,rfl⟩)),h.vault.mz,A.at'.log,h.vault.deeds.keepAt fun x hx=>C _ (.inr (.inr (.inl ⟨x,hx,rfl⟩))),
   fun x hx=>(h.vault.each x hx).keepB fun y E=>C _ (.inr (.inr (.inr (.inl ⟨x,hx,E⟩)))),h.vault.gm.keep (C _ (.inr (.inr (.inr (.inr (.inl rfl)))))),
   fun g L=>(h.vault.rows g L).keepAt fun x hx=>C _ (.inr (.inr (.inr (.inr (.inr (.inr (.inl ⟨g,L,by cases hx;rfl⟩))))))),h.vault.sepf,h.vault.sepi,h.vault.bm.keep (C _ (.inr (.inr (.inr (.inr (.inr (.inl rfl))))))),
   fun y E=>⟨(h.vault.boxes y E).1,(h.vault.boxes y E).2.1,(C _ (.inr (.inr (.inr (.inr (.inr (.inr (.inr ⟨y,E,rfl⟩)))))))).trans (h.vault.boxes y E).2.2⟩,fun x hx=>fun S=>H x hx (.inr S),h.vault.good,N⟩
  have e:aV {V with R:=V'.R}=aV V:=(by unfold aV;dsimp only;rw [A.l]);rw [e];exact (C _ (.inl rfl)).trans h.vault.blk
 refine ⟨A.turn.mono fun x hx=>hx.elim .inl fun h=> .inr (.inl h),⟨A.at'.disk,M,fun x hx D=> ?_⟩,fun x hx=> ?_,A.d,by rw [G],by rw [G]⟩
 .rcases hx with hx|hx
  .exact A.at'.apart x hx D
  .exact H x ((I x).1 hx) (.inl D)
 .rcases hx with hx|hx|hx
  .exact (A.foot' x (.inl hx)).imp (fun h=>h.elim .inl fun h=> .inr (.inl h)) id
  .exact (A.foot' x (.inr hx)).imp (fun h=>h.elim .inl fun h=> .inr (.inl h)) id
  .exact .inl (.inr (.inr ((I x).1 hx)))
theorem bL.vault (A:bL B w r w' r') (h:VL w B r V):ik B w r V w' r' V:=iU.vault (bL.log A h.dl) h rfl h.vault.cnt
end
section
variable {w:As} {B d:Nat} {V:aR}
theorem jS {l:List ao} {f fc:Nat->Nat} {g:Nat} (A:g<aO l):(nR g,Gy (f g) (bf l (g:Int)).length (fc g))∈kJ l f fc:=VH.2 ⟨g,Wk.2 A,rfl⟩
theorem uB {l:List ao} {f fc:Nat->Nat} {g:Nat} (D:aO l<=g):nR g∉(kJ l f fc).map Prod.fst:=fun h=>by
 unfold kJ at h;rw [We] at h;obtain ⟨k,A,e⟩:=VH.1 h;have:=Wk.1 A;have C:nR k=nR g:=e;rw [pk] at C;omega
theorem aP.look (h:aP w B d V) {g:Nat} (D:g<aO V.l) (b:Bool):(Instr.lookup 90 (.map (some V.mg)) (.int .i64 (g:Int)) b).run prog w= .ok (if b then .tuple #[.slice (some ⟨V.f g,0,none⟩) (bf V.l (g:Int)).length (V.fc g),.bool true] else .slice (some ⟨V.f g,0,none⟩) (bf V.l (g:Int)).length (V.fc g)) w:=by
 have E:=qK (n:=g) (by have:=h.small.2.1;omega);cases b with
 |true=>
  obtain ⟨v,ps,A,C⟩:=h.gm.look_ok oV underlying90 (kN w) (show Rs (.slice none 0 0)=some (.agg [],[]) from rfl) E (jS D);rw [A,zV C];rfl
 |false=>
  obtain ⟨v,ps,A,C⟩:=h.gm.look oV underlying90 (kN w) (show Rs (.slice none 0 0)=some (.agg [],[]) from rfl) E (jS D);rw [A,zV C];rfl
theorem uL {v:Value} {ps:List MemPlace} (h:Rs v=some (.agg [],ps)):v= .slice none 0 0:=by
 unfold Rs at h;split at h
 .simp [Gy] at h
 .rfl
 .cases h
theorem Ld {v:Value} {ps:List MemPlace} (h:Rb v=some (.agg [],ps)):v= .pointer none:=by
 unfold Rb at h;split at h
 .simp at h
 .rfl
 .cases h
theorem aP.look_no (h:aP w B d V) {n:Int} (H:(Lit.int .i64 n).wf=true) (J:¬(0<=n/\n<(aO V.l:Int))) (b:Bool):(Instr.lookup 90 (.map (some V.mg)) (.int .i64 n) b).run prog w= .ok (if b then .tuple #[.slice none 0 0,.bool false] else .slice none 0 0) w:=by
 have A:keyOf prog 3 (.int .i64 n)=some (.int .i64 n):=keyOf_int_mk underlying3 H;have G:(Lit.int .i64 n)∉(kJ V.l V.f V.fc).map Prod.fst:=fun C=>by
  unfold kJ at C;rw [We] at C;obtain ⟨k,A,e⟩:=VH.1 C;have:=Wk.1 A;have I:nR k= .int .i64 n:=e;simp only [nR,Lit.int.injEq,ZP] at I;omega
 cases b with
 |true=>
  obtain ⟨v,ps,D,E⟩:=h.gm.look_ok_no oV underlying90 (kN w) (show Rs (.slice none 0 0)=some (.agg [],[]) from rfl) A G;rw [D,uL E];rfl
 |false=>
  obtain ⟨v,ps,D,E⟩:=h.gm.look_no oV underlying90 (kN w) (show Rs (.slice none 0 0)=some (.agg [],[]) from rfl) A G;rw [D,uL E];rfl
theorem nf (l:List ao) (f fc:Nat->Nat):(kJ l f fc).length=aO l:=by simp [kJ]
theorem aP.size (h:aP w B d V) (ty:TypeId):(Builtin.len_ #[90] ty #[.map (some V.mg)]).run prog w= .ok (.int .i64 (aO V.l:Int)) w:=by
 rw [h.gm.len underlying90 ty,nf]
theorem aP.lookB (h:aP w B d V) {y:Nat×Nat} (A:y∈V.bl):(Instr.lookup 91 (.map (some V.mb)) (.int .i64 (y.1:Int)) false).run prog w= .ok (.pointer (some ⟨y.2,0,none⟩)) w:=by
 have C:=qK (n:=y.1) (by have:=(h.boxes y A).2.1;omega);obtain ⟨v,ps,D,E⟩:=h.bm.look oV underlying91 (BH w) (show Rb (.pointer none)=some (.agg [],[]) from rfl) C (VH.2 ⟨y,A,rfl⟩);rw [D,NJ E]
theorem aP.noBox {g:Nat} (C:∀y∈V.bl,y.1≠g):nR g∉(V.bl.map MT).map Prod.fst:=fun A=>by
 rw [We] at A;obtain ⟨y,D,e⟩:=VH.1 A;exact C y D (pk.1 e)
theorem aP.lookB_no (h:aP w B d V) {g:Nat} (G:g<=4096) (A:∀y∈V.bl,y.1≠g):(Instr.lookup 91 (.map (some V.mb)) (.int .i64 (g:Int)) false).run prog w= .ok (.pointer none) w:=by
 have C:=qK (n:=g) oA;obtain ⟨v,ps,D,E⟩:=h.bm.look_no oV underlying91 (BH w) (show Rb (.pointer none)=some (.agg [],[]) from rfl) C (aP.noBox A);rw [D,Ld E]
end
end
section
open Go.RowKit Go.Maps
section
variable {w w':As} {B d:Nat} {V:aR}
theorem iV.obj {P:Program} {k:TypeId} {R:Value->Option (DU×List MemPlace)} {M:Nat} {l:List (Lit×DU)} (h:iV w P k R M l):∃C A,w.heap[M]? =some (.map C A):=by
 obtain ⟨D,⟨C,A,E,_⟩,_⟩:=h.ex;exact ⟨C,A,E⟩
theorem Blk.ne_gmap {g:Nat} {cs:AS} {ty:TypeId} (C:Blk w g cs ty) {P:Program} {k:TypeId} {R:Value->Option (DU×List MemPlace)} {M:Nat} {l:List (Lit×DU)} (h:iV w P k R M l):g≠M:=fun e=>by
 obtain ⟨G,E,D⟩:=h.obj;have A:w.heap[g]? =_:=C;rw [e,D] at A;cases A
theorem aJ.mapTurned {F:Nat->Prop} {M:Nat} (h:w.mapTurned w' M) (A:F M):aJ F w w':=aJ.of_grown h.grown (fun k e=>by cases e;exact A)
theorem aJ.off {F:Nat->Prop} {a b:As} (h:aJ F a.drew b):aJ F a b:=⟨h.os,h.tape,h.output,h.size,h.block⟩
theorem ug:∀(n:Nat) (l:List Nat),l.Nodup->(∀x∈l,x<n)->l.length<=n
 |0,l,_,h=>by
  cases l with
  |nil=>exact VU _
  |cons x r=>exact absurd (h x skA) (Xu _)
 |n+1,l,hn,h=>by
  by_cases C:n∈l
  .have h1:=ug n (l.erase n) (hn.erase n) (fun x hx=>by
    have A:=(hn.mem_erase_iff).1 hx;have:=h x A.2;have:=A.1;omega)
   rw [List.length_erase_of_mem C] at h1;omega
  .have h1:=ug n l hn (fun x hx=>by
    have A:=h x hx;have:x≠n:=fun e=>C (e▸hx);omega)
   omega
theorem aP.boxN (h:aP w B d V):V.bl.length<=4097:=by
 have A:=h.bm.nd;rw [We] at A;have D:(V.bl.map Prod.fst).Nodup:=by
  have E:((V.bl.map Prod.fst).map nR).Nodup:=(by rw [We];exact A);exact List.Pairwise.of_map nR (fun a b C e=>C (by rw [e])) E
 have:=ug 4097 (V.bl.map Prod.fst) D (fun x hx=>by
  obtain ⟨y,G,rfl⟩:=VH.1 hx;have:=(h.boxes y G).2.1;omega)
 rwa [lmA] at this
theorem aP.boxed (h:aP w B d V) (O:w.mapTurned w' V.mb) {g b:Nat} (E:g<=4096) (S:iV w' prog 3 Rb V.mb (V.bl.map MT++ [MT (g,b)])) (C:fZ w' b V.m g) (J:B<=b) (T:¬dP V.R b):aP w' B d {V with bl:=V.bl++ [(g,b)]}:=by
 have H:∀x,x≠V.mb->x<w.heap.size->w'.heap[x]? =w.heap[x]? :=fun x L M=>O.grown.block x M (by simpa using L);have N:∀x,dP V.R x->w'.heap[x]? =w.heap[x]? :=fun x hx=>H x (fun e=>h.sepl V.mb (.inr (.inr (.inr (.inr (.inr (.inl rfl)))))) (e▸hx)) (h.log.lt hx).2;have D:∀x cs t,Blk w x cs t->w'.heap[x]? =w.heap[x]? :=fun x cs t C=>H x (C.ne_gmap h.bm) C.lt;refine ⟨h.ge,(D _ _ _ h.blk).trans h.blk,h.master.keepAt fun x hx=> ?_,h.mz,h.log.keep N,h.deeds.keepAt fun x hx=> ?_,fun x hx=>(h.each x hx).keepB fun y A=> ?_,h.gm.keep (H _ h.ge.2.2.2 h.gm.lt),
  fun g E=>(h.rows g E).keepAt fun x hx=> ?_,h.sepf,h.sepi,by rw [VF];exact S,fun y A=> ?_,fun x hx=> ?_,h.good,h.cnt⟩
 .obtain ⟨_,_,G,C⟩:=h.master.block_lt hx;exact D _ _ _ C
 .obtain ⟨_,_,G,C⟩:=h.deeds.block_lt hx;exact D _ _ _ C
 .obtain ⟨_,_,G,t,C,_⟩:=(h.each x hx).innerLt A;exact D _ _ _ C
 .obtain ⟨_,_,G,C⟩:=(h.rows g E).block_lt hx;exact D _ _ _ C
 .rcases Ve.1 A with A|A
  .obtain ⟨U,W,I⟩:=h.boxes y A;exact ⟨U,W,(D _ _ _ I).trans I⟩
  .rw [VS.1 A];exact ⟨J,E,C⟩
 .rcases hx with hx|hx|hx|hx|hx|hx|hx|⟨y,A,rfl⟩
  .exact h.sepl x (.inl hx)
  .exact h.sepl x (.inr (.inl hx))
  .exact h.sepl x (.inr (.inr (.inl hx)))
  .exact h.sepl x (.inr (.inr (.inr (.inl hx))))
  .exact h.sepl x (.inr (.inr (.inr (.inr (.inl hx)))))
  .exact h.sepl x (.inr (.inr (.inr (.inr (.inr (.inl hx))))))
  .exact h.sepl x (.inr (.inr (.inr (.inr (.inr (.inr (.inl hx)))))))
  .rcases Ve.1 A with A|A
   .exact h.sepl y.2 (.inr (.inr (.inr (.inr (.inr (.inr (.inr ⟨y,A,rfl⟩)))))))
   .rw [VS.1 A];exact T
end
def Qx (B d:Nat) (w:As) (V:aR) (g:Nat) (e:Ending) (w':As):Prop:=∃(b:Nat) (bl:List (Nat×Nat)),e= .returned (.pointer (some ⟨b,0,none⟩))/\fZ w' b V.m g/\iJ B d w V w' {V with bl:=bl}/\aJ (fun x=>x=V.mb) w w'
theorem yM (w:As) (B d:Nat) (V:aR) (h:aP w B d V) (c:B<=w.heap.size) (g:Nat) (O:g<=4096):
  Calls prog 53 #[.pointer (some ⟨V.v,0,none⟩),.int .i64 (g:Int)] w (Qx B d w V g):=by
 have R:=h.blk.rule;unfold aV at R;by_cases A:∃y∈V.bl,y.1=g
 .obtain ⟨y,A,rfl⟩:=A;have G:=h.lookB A;go_enter func53,ntmps53;go_wp2_with fail;go_ret;exact ⟨y.2,V.bl,rfl,(h.boxes y A).2.2,iJ.refl h,aJ.refl _ _⟩
 .have hn:∀y∈V.bl,y.1≠g:=fun y C D=>A ⟨y,C,D⟩;have G:=h.lookB_no O hn;have s:IntKind.u64.wrap (g:Int)=(g:Int):=by
   simp only [IntKind.wrap,IntKind.bits,IntKind.signed];simp;omega
  clear A;go_enter func53,ntmps53;go_wp2_with fail;have f:∀W,au (fun x=>x=V.v) w.drew W->∀i,W.cell? ⟨V.v,i,none⟩=(aV V)[i]? :=fun W j i=>(VE (a:=⟨V.v,i,none⟩) (j.2 V.v rfl)).trans (h.blk.rule i);unfold aV at f;clear R G;refine ah true (au (fun x=>x=V.v)) (au.refl _) (fun _ _ _ C D=>au.trans C D) (.step 0 (.step 1 (.step 2 (.step 3 (.step 4 (.step 5 (.step 6 (.step 7 (.step 8 (.step 9 (.step 10 (.step 11 (.step 12 .done))))))))))))) krA krA cdA ?_
  repeat refine txA ?_
  refine am rfl rfl rfA (fun K L=> ?_);go_wp2_with fail;refine (Fj V.ma V.m.length V.mc V.m g w.drew h.master.drew.row rfl (by have:=h.mz;omega) oA).mono ?_;rintro e w1 ⟨b,rfl,H,I,E⟩;have M:Below w.heap.size w w1:=⟨E.os,E.tape,E.output,E.size,E.block⟩;have C:=h.old M;go_wp2_with fail;refine L _ _ (au.below E fun x hx=>by subst hx;exact h.blk.lt) ?_;clear L K;have X:nR g∉(V.bl.map MT).map Prod.fst:=aP.noBox hn;have U:V.bl.length<maxLen:=(by have:=h.boxN;unfold maxLen;omega);obtain ⟨S,o,Y,J⟩:=C.bm.add oV underlying91 (by rw [lmA];exact U) (qK (n:=g) oA) (QC b) X;have N:fZ S b V.m g:=(J.grown.block b I.lt (by simpa using I.ne_gmap C.bm)).trans I;have D:=C.boxed J O Y N (Vd c H) (fun G=>by have:=(h.log.lt G).2;simp at H;omega);have T:aJ (fun x=>x=V.mb) w S:=(aJ.of_below (F:=fun x=>x=V.mb) M).trans (aJ.mapTurned (F:=fun x=>x=V.mb) J rfl) fun _ h=> .inl h;have q:=D.lookB (y:=(g,b)) skA;have Z:=D.blk.rule;unfold aV at Z;refine az rfl rfl rfA (fun K L=> ?_);go_wp2_with fail;refine aq ?_;go_wp2_with fail;go_ret;refine ⟨b,_,rfl,N,⟨T.mono fun x hx=> .inr (.inr (.inr (.inr (.inr (.inl hx))))),D,fun x hx=> ?_,rfl,rfl,rfl,rfl⟩,T⟩;rcases hx with hx|hx|hx|hx|hx|hx|hx|⟨y,A,rfl⟩
  .exact .inl (.inl hx)
  .exact .inl (.inr (.inl hx))
  .exact .inl (.inr (.inr (.inl hx)))
  .exact .inl (.inr (.inr (.inr (.inl hx))))
  .exact .inl (.inr (.inr (.inr (.inr (.inl hx)))))
  .exact .inl (.inr (.inr (.inr (.inr (.inr (.inl hx))))))
  .exact .inl (.inr (.inr (.inr (.inr (.inr (.inr (.inl hx)))))))
  .rcases Ve.1 A with A|A
   .exact .inl (.inr (.inr (.inr (.inr (.inr (.inr (.inr ⟨y,A,rfl⟩)))))))
   .rw [VS.1 A];exact .inr H
theorem om (w:As) (B d:Nat) (V:aR) (h:aP w B d V) (X:Nat) (x:ao) (hx:aY) (D:Blk w X (af x hx).toArray 40):
  Calls prog 52 #[.pointer (some ⟨V.v,0,none⟩),.pointer (some ⟨X,0,none⟩)] w fun e w'=>e= .returned (.bool (bz V.l x))/\Below w.heap.size w w':=by
 have G:w.cell? ⟨X,0,none⟩=some (.int .i8 x.kind):=D.cell rfl;have H:∀W,Old w.drew W->∀i,W.cell? ⟨V.v,i,none⟩=(aV V)[i]? :=fun W A i=>(h.blk.drew.old A).rule i;have L1:∀W,Old w.drew W->W.cell? ⟨X,1,none⟩=some (.int .i64 x.game):=fun W A=>(D.drew.old A).cell rfl;have L2:∀W,Old w.drew W->∀ty,(Builtin.len_ #[90] ty #[.map (some V.mg)]).run prog W= .ok (.int .i64 (aO V.l:Int)) W:=fun W A ty=>(h.old (w':=W) ⟨A.os,A.tape,A.output,A.size,A.block⟩).size ty;unfold aV at H;unfold bz;by_cases C:x.kind=1
 .rw [Vz C];rw [C] at G;go_enter func52,ntmps52;go_wp2_with fail;refine aB (0::1::2::3::4::5::6::7::8::9::10::[]) krA krA cdA ?_
  repeat refine lxA ?_
  refine bJ ?_;go_wp2_with fail;go_ret;exact ⟨by first|rfl|(congr 2),(VW _ _).drew⟩
 .rw [VV C];by_cases E:0<=x.game
  .have t0:decide (0<=x.game)=true:=VK E;rw [t0,WU];go_enter func52,ntmps52;go_wp2_with fail;refine bR (0::1::2::3::4::5::6::7::8::9::10::11::12::13::14::15::16::17::[]) krA krA cdA ?_
   repeat refine gxA ?_
   refine eS ?_;go_wp2_with fail;go_ret;exact ⟨rfl,(VW _ _).drew⟩
  .have t0:decide (0<=x.game)=false:=VO E;rw [t0,Wj];go_enter func52,ntmps52;go_wp2_with fail;refine bR (0::1::2::3::4::5::6::7::8::9::10::11::12::13::14::15::16::17::[]) krA krA cdA ?_
   repeat refine gxA ?_
   refine eS ?_;go_wp2_with fail;go_ret;exact ⟨rfl,(VW _ _).drew⟩
theorem sG:bC prog 23 40 15 224:=bC.mk (z:= .agg cM) underlying23 krA rfl oA
theorem qv {α:Type}:∀{A B:List α},A.Nodup->(∀x∈A,x∈B)->A.length=B.length->A.Perm B
 | [],B,_,_,h=>by
  have:B=[]:=VX h.symm;rw [this]
 |a::A,B,hn,hs,hl=>by
  rw [XR] at hn;obtain ⟨C,D,rfl⟩:=List.append_of_mem (hs a skA);have E:(C++a::D).Perm (a::(C++D)):=List.perm_middle;refine (List.Perm.cons a (qv hn.2 (fun x hx=> ?_) ?_)).trans E.symm
  .have hne:x≠a:=fun e=>hn.1 (e▸hx);have:=hs x (by simp [hx]);simp at this⊢;rcases this with h|h|h
   .exact .inl h
   .exact absurd h hne
   .exact .inr h
  .simp at hl⊢;omega
def upd (f:Nat->Nat) (g b:Nat) (k:Nat):Nat:=if k=g then b else f k
theorem jr (f:Nat->Nat) (g b:Nat):upd f g b g=b:=Vz rfl
theorem fU {f:Nat->Nat} {g b k:Nat} (h:k≠g):upd f g b k=f k:=VV h
theorem qS (l:List ao) (f fc:Nat->Nat):((kJ l f fc).map Prod.fst).Nodup:=by
 unfold kJ;rw [We];show ((List.range (aO l)).map fun g=>nR g).Nodup;refine List.Pairwise.map _ ?_ (List.nodup_range);intro a b A e;exact A (pk.1 e)
theorem DZ {l:List ao} {x:ao} {g:Nat} (M:x.game=(g:Int)) (N:bz l x=true) (f fc:Nat->Nat) (b c:Nat):
  (((kJ l f fc).filter fun e=> !cK (nR g) e)++ [(nR g,Gy b ((bf l (g:Int)).length+1) c)]).Perm (kJ (l++ [x]) (upd f g b) (upd fc g c)):=by
 have D:=dI N;have G:=gj l x;have I:(bf (l++ [x]) (g:Int)).length=(bf l (g:Int)).length+1:=(by rw [iR,Vz M];simp);have R:g<aO (l++ [x]):=(by have:=D.2.1;omega);have J:(kJ (l++ [x]) (upd f g b) (upd fc g c)).Nodup:=(List.Pairwise.of_map Prod.fst (fun a b L e=>L (by rw [e])) (qS (l++ [x]) (upd f g b) (upd fc g c)));refine (qv J (fun e O=> ?_) ?_).symm
 .obtain ⟨k,A,rfl⟩:=VH.1 O;have A:=Wk.1 A;by_cases E:k=g
  .subst E;refine Ve.2 (.inr ?_);rw [jr,jr,I];exact VS.2 rfl
  .refine Ve.2 (.inl (Vy.2 ⟨?_,?_⟩))
   .have hkl:k<aO l:=by
     by_cases C:x.kind=1
     .have:=D.2.2.2 C;rw [G,Vz C] at A;omega
     .rw [G,VV C] at A;omega
    have e:bf (l++ [x]) (k:Int)=bf l (k:Int):=(by rw [iR,VV oA,WO]);rw [fU E,fU E,e];exact jS hkl
   .unfold cK;have:(nR k).sameKey (nR g)=false:=by
     rw [VY];intro e;exact E (pk.1 (Vg e))
    dsimp only;rw [this];rfl
 .have hkl:WideAt.IsKeyLit (nR g):=(by simp [nR,WideAt.IsKeyLit]);have C:=lU hkl (qS l f fc);rw [nf] at C;rw [nf,laA,Xq,G];by_cases H:g<aO l
  .have ha:(kJ l f fc).any (cK (nR g))=true:=(mA hkl).2 (VH.2 ⟨_,jS H,rfl⟩);rw [Vz ha] at C;have A:¬x.kind=1:=fun h=>(by have:=D.2.2.2 h;omega);rw [VV A];omega
  .have ha:¬(kJ l f fc).any (cK (nR g))=true:=fun h=>uB (f:=f) (fc:=fc) (ZM H) ((mA hkl).1 h);rw [VV ha] at C;have A:x.kind=1:=by
    by_cases h:x.kind=1
    .exact h
    .have:=D.2.2.1 h;omega
   rw [Vz A];omega
def pm (V:aR) (x:ao) (h':aY) (g b c b2 c2:Nat):aR:={V with da:=some ⟨b2,0,none⟩,dc:=c2,ds:=V.ds++ [(x,h')],f:=upd V.f g b,fc:=upd V.fc g c}
theorem Hv (V:aR) (x:ao) (h':aY) (g b c b2 c2:Nat):(pm V x h' g b c b2 c2).l=V.l++ [x]:=by simp [pm,aR.l]
section
variable {w w':As} {B d:Nat} {V:aR}
theorem Gi (h:aP w B d V) {x:ao} {h':aY} {g b c b2 c2:Nat} (A7:x.game=(g:Int)) (hm:iE x=true) (hf:bz V.l x=true) (A8:OkD x) (hc:V.ds.length<V.R.ls.length)
  (S:aJ (fun y=>y=V.v\/y=V.mg\/(g<aO V.l/\y=V.f g)\/atB V.da y) w w')
  (A4:Blk w' V.v (aV (pm V x h' g b c b2 c2)) 93) (A9:iV w' prog 3 Rs V.mg (kJ (V.l++ [x]) (upd V.f g b) (upd V.fc g c)))
  (A5:Own w' B 3 1 (some ⟨b,0,none⟩) ((bf V.l (g:Int)).length+1) c (gD V.l g++ [.int .i64 (V.ds.length:Int)])) (Z:(g<aO V.l/\b=V.f g)\/w.heap.size<=b)
  (BY:Own w' B 40 15 (some ⟨b2,0,none⟩) (V.ds.length+1) c2 (eC V.ds++af x h')) (j:atB V.da b2\/w.heap.size<=b2)
  (B0:be w' B x h') (m:∀y,qL h' y->w.heap.size<=y/\y≠b):iJ B d w V w' (pm V x h' g b c b2 c2):=by
 have B1:=dI hf;have hN:=gj V.l x;have T:=Hv V x h' g b c b2 c2;have A6:=V.len;have A1:∀y,(y=V.v\/y=V.mg\/(g<aO V.l/\y=V.f g)\/atB V.da y)->ej V y:=by
  rintro y (rfl|rfl|⟨M,rfl⟩|N)
  .exact .inl rfl
  .exact .inr (.inr (.inr (.inr (.inl rfl))))
  .exact .inr (.inr (.inr (.inr (.inr (.inr (.inl ⟨g,M,rfl⟩))))))
  .exact .inr (.inr (.inl N))
 have B2:∀y,dP V.R y->w'.heap[y]? =w.heap[y]? :=fun y D=>S.block y (h.log.lt D).2 fun hF=>h.sepl y (A1 y hF) D;have U:∀k,k<aO V.l->∃I,Blk w (V.f k) I 3:=fun k G=>by
  obtain ⟨_,_,I,E⟩:=(h.rows k G).block_lt rfl;exact ⟨I,E⟩
 have X:∀y cs t,Blk w y cs t->t≠93->t≠40->(t=3->¬(g<aO V.l/\y=V.f g))->w'.heap[y]? =w.heap[y]? :=fun y cs t E A H Y=>by
  refine S.block y E.lt ?_;rintro (rfl|rfl|⟨M,rfl⟩|⟨q,N,rfl⟩)
  .exact Blk.ne E h.blk A rfl
  .exact E.ne_gmap h.gm rfl
  .by_cases e:t=3
   .exact Y e ⟨M,rfl⟩
   .obtain ⟨I,o⟩:=U g M;exact Blk.ne E o e rfl
  .obtain ⟨_,_,I,o⟩:=h.deeds.block_lt N;exact Blk.ne E o H rfl
 have O:∀k,k<aO (V.l++ [x])->k≠g->k<aO V.l:=fun k G A3=>by
  by_cases A:x.kind=1
  .have:=B1.2.2.2 A;rw [hN,Vz A] at G;omega
  .rw [hN,VV A] at G;omega
 have A2:∀k,k<aO V.l->k≠g->V.f k≠b:=fun k G A3 e=>by
  rcases Z with ⟨A,H⟩|A
  .exact A3 (h.sepf k g G A (e.trans H))
  .obtain ⟨I,E⟩:=U k G;have:=E.lt;omega
 have A0:∀y,ej (pm V x h' g b c b2 c2) y->ej V y\/w.heap.size<=y:=by
  intro y D;unfold ej at D;rw [T] at D;rcases D with rfl|D|⟨q,N,rfl⟩|⟨z,C,L⟩|rfl|rfl|⟨k,G,rfl⟩|D
  .exact .inl (.inl rfl)
  .exact .inl (.inr (.inl D))
  .cases N;exact j.imp (fun h=> .inr (.inr (.inl h))) id
  .rcases Ve.1 (show z∈V.ds++ [(x,h')] from C) with C|C
   .exact .inl (.inr (.inr (.inr (.inl ⟨z,C,L⟩))))
   .rw [VS.1 C] at L;exact .inr (m y L).1
  .exact .inl (.inr (.inr (.inr (.inr (.inl rfl)))))
  .exact .inl (.inr (.inr (.inr (.inr (.inr (.inl rfl))))))
  .by_cases J:k=g
   .subst J;rw [show (pm V x h' k b c b2 c2).f k=b from jr _ _ _];rcases Z with ⟨A,H⟩|A
    .exact .inl (.inr (.inr (.inr (.inr (.inr (.inr (.inl ⟨k,A,H⟩)))))))
    .exact .inr A
   .rw [show (pm V x h' g b c b2 c2).f k=V.f k from fU J];exact .inl (.inr (.inr (.inr (.inr (.inr (.inr (.inl ⟨k,O k G J,rfl⟩)))))))
  .exact .inl (.inr (.inr (.inr (.inr (.inr (.inr (.inr D)))))))
 refine ⟨S.mono A1,?_,A0,rfl,rfl,rfl,rfl⟩;refine ⟨h.ge,A4,?_,h.mz,h.log.keep B2,?_,?_,by rw [T];exact A9,?_,?_,?_,?_,?_,?_,?_,?_⟩
 .refine h.master.keepAt fun y D=> ?_;obtain ⟨_,_,I,E⟩:=h.master.block_lt D;exact X _ _ _ E dcA dcA (fun e=>absurd e dcA)
 .have W:(pm V x h' g b c b2 c2).ds.length=V.ds.length+1:=(by simp [pm]);have s:eC (pm V x h' g b c b2 c2).ds=eC V.ds++af x h':=(by simp [pm,eC]);rw [W,s];exact BY
 .intro z C;rcases Ve.1 (show z∈V.ds++ [(x,h')] from C) with C|C
  .refine (h.each z C).keepB fun y D=> ?_;obtain ⟨_,_,I,t,E,S⟩:=(h.each z C).innerLt D;refine X y I t E (by rcases S with rfl|rfl<;>decide) (by rcases S with rfl|rfl<;>decide) fun e ⟨M,s⟩=> ?_
   rcases D with D|⟨q,N,e3⟩
   .exact h.sepi g M z C (s▸D)
   .obtain ⟨_,_,B3,j⟩:=(h.each z C).act.pairs.1.block_lt N;subst e3;exact Blk.ne E j (by rw [e];decide) rfl
  .rw [VS.1 C];exact B0
 .intro k G;rw [T] at G⊢;by_cases J:k=g
  .subst J;have W:bf (V.l++ [x]) (k:Int)=bf V.l (k:Int)++ [V.ds.length]:=(by rw [iR,Vz A7,A6]);unfold gD;rw [show (pm V x h' k b c b2 c2).f k=b from jr _ _ _,show (pm V x h' k b c b2 c2).fc k=c from jr _ _ _,W,laA,VF];exact A5
  .have hkl:=O k G J;have W:bf (V.l++ [x]) (k:Int)=bf V.l (k:Int):=(by rw [iR,VV oA,WO]);unfold gD;rw [show (pm V x h' g b c b2 c2).f k=V.f k from fU J,show (pm V x h' g b c b2 c2).fc k=V.fc k from fU J,W];refine (h.rows k hkl).keepAt fun y D=> ?_;cases D;obtain ⟨I,E⟩:=U k hkl;exact X _ _ _ E dcA dcA fun _ ⟨M,e⟩=>J (h.sepf k g hkl M e)
 .intro k k' G hk' e;rw [T] at G hk';by_cases A:k=g
  .by_cases H:k'=g
   .rw [A,H]
   .exfalso;subst A;rw [show (pm V x h' k b c b2 c2).f k=b from jr _ _ _,show (pm V x h' k b c b2 c2).f k'=V.f k' from fU H] at e;exact A2 k' (O k' hk' H) H e.symm
  .by_cases H:k'=g
   .exfalso;subst H;rw [show (pm V x h' k' b c b2 c2).f k'=b from jr _ _ _,show (pm V x h' k' b c b2 c2).f k=V.f k from fU A] at e;exact A2 k (O k G A) A e
   .rw [show (pm V x h' g b c b2 c2).f k=V.f k from fU A,show (pm V x h' g b c b2 c2).f k'=V.f k' from fU H] at e;exact h.sepf k k' (O k G A) (O k' hk' H) e
 .intro k G z C L;rw [T] at G;by_cases J:k=g
  .subst J;rw [show (pm V x h' k b c b2 c2).f k=b from jr _ _ _] at L;rcases Ve.1 (show z∈V.ds++ [(x,h')] from C) with C|C
   .rcases Z with ⟨A,H⟩|A
    .exact h.sepi k A z C (H▸L)
    .have:=((h.each z C).innerLt (.inl L)).2.1;omega
   .rw [VS.1 C] at L;exact (m b (.inl L)).2 rfl
  .have hkl:=O k G J;rw [show (pm V x h' g b c b2 c2).f k=V.f k from fU J] at L;rcases Ve.1 (show z∈V.ds++ [(x,h')] from C) with C|C
   .exact h.sepi k hkl z C L
   .rw [VS.1 C] at L;have A:=(m _ (.inl L)).1;obtain ⟨I,E⟩:=U k hkl;have:=E.lt;omega
 .refine h.bm.keep (S.block _ h.bm.lt ?_);rintro (e|e|⟨M,e⟩|⟨q,N,e⟩)
  .exact (h.blk.ne_gmap h.bm) e.symm
  .exact h.ge.2.2.2 e.symm
  .obtain ⟨I,E⟩:=U g M;exact (E.ne_gmap h.bm) e.symm
  .obtain ⟨_,_,I,E⟩:=h.deeds.block_lt N;exact (E.ne_gmap h.bm) e.symm
 .intro y D;obtain ⟨A,H,Y⟩:=h.boxes y D;exact ⟨A,H,(X _ _ _ Y dcA dcA (fun e=>absurd e dcA)).trans Y⟩
 .intro y D hy2;rcases A0 y D with A|A
  .exact h.sepl y A hy2
  .have:=(h.log.lt hy2).2;omega
 .rw [T];exact nr.snoc h.good hm hf A8
 .show (V.ds++ [(x,h')]).length<=V.R.ls.length;simp;omega
end
theorem jT (x:ao) (h:aY):List.foldl (fun (cs:AS) (x:Value×Nat)=>cs.setIfInBounds x.snd x.fst) #[.int .i8 0,.int .i64 0,.int .i64 0,.string ⟨#[]⟩,.string ⟨#[]⟩,.string ⟨#[]⟩,.slice none 0 0,.slice none 0 0,.slice none 0 0,.int .i8 0,.int .i64 0,.int .i64 0,.int .i64 0,.slice none 0 0,.slice none 0 0] (af x h).zipIdx=(af x h).toArray:=by
 simp [af,List.zipIdx]
theorem sP {w w':As} (h:Below w.drew.heap.size w.drew w'):Below w.heap.size w w':=⟨h.os,h.tape,h.output,h.size,h.block⟩
def Ny (B d:Nat) (w:As) (V:aR) (x:ao) (e:Ending) (w':As):Prop:=∃V':aR,e= .returned (.tuple #[])/\iJ B d w V w' V'/\V'.l=V.l++ [x]/\V'.mg=V.mg/\V'.mb=V.mb
theorem aP.rowOf {w:As} {B d:Nat} {V:aR} (h:aP w B d V) {x:ao} {g:Nat} (M:x.game=(g:Int)) (R:bz V.l x=true) (N:ff x.game):
  ∃(D:Lt) (J:Nat),(∀W,W.heap[V.mg]? =w.heap[V.mg]?->(Instr.lookup 90 (.map (some V.mg)) (.int .i64 (g:Int)) false).run prog W= .ok (.slice D (bf V.l (g:Int)).length J) W)/\Own w B 3 1 D (bf V.l (g:Int)).length J (gD V.l g)/\(∀A,D=some A->g<aO V.l/\A.block=V.f g):=by
 by_cases C:g<aO V.l
 .refine ⟨some ⟨V.f g,0,none⟩,V.fc g,fun W E=> ?_,h.rows g C,fun A e=>by cases e;exact ⟨C,rfl⟩⟩;have G:=qK (n:=g) (by have:=h.small.2.1;omega);obtain ⟨v,ps,H,I⟩:=(h.gm.keep E).look oV underlying90 (kN W) (show Rs (.slice none 0 0)=some (.agg [],[]) from rfl) G (jS C);rw [H,zV I]
 .have hno:bf V.l (g:Int)=[]:=by
   have:=h.good.none (g:=(g:Int)) oA;have L:=fl V.l (g:Int);rw [this] at L;exact VX L
  have O:gD V.l g=[]:=(by unfold gD;rw [hno];rfl);rw [hno,O];refine ⟨none,0,fun W E=> ?_,Own.nil _ _ _ _,fun A e=>by cases e⟩;have G:keyOf prog 3 (.int .i64 (g:Int))=some (nR g):=keyOf_int_mk underlying3 (by rw [<-M];exact N);obtain ⟨v,ps,H,I⟩:=(h.gm.keep E).look_no oV underlying90 (kN W) (show Rs (.slice none 0 0)=some (.agg [],[]) from rfl) G (uB oA);rw [H,uL I];rfl
theorem uT (w:As) (B d:Nat) (V:aR) (h:aP w B d V) (hB:B<=w.heap.size) (x:ao) (hx:aY) (A2:∀W,aJ (ej V) w W->dp W x hx) (hm:iE x=true) (hf:bz V.l x=true) (hc:V.ds.length<V.R.ls.length):
  Calls prog 51 #[.pointer (some ⟨V.v,0,none⟩),dG x hx] w (Ny B d w V x):=by
 have hd:=A2 w (aJ.refl _ _);obtain ⟨g,hg⟩:∃g:Nat,x.game=(g:Int):=⟨x.game.toNat,by have:=(dI hf).1;omega⟩;obtain ⟨sa,sc,B0,C4,B4⟩:=h.rowOf hg hf hd.game;have B5:=h.small;have E0:=B5.2.2 (g:Int);rw [aD];go_enter func51,ntmps51;go_upto_region 1 with fail;obtain ⟨X,hX⟩:=At w.heap.size;rw [<-hX];refine ag (fun W=>Blk W X (af x hx).toArray 40/\Below w.heap.size w W) ⟨by subst hX;exact Blk.new w _ _,by subst hX;exact cL⟩ ?_;rintro N ⟨bX,A0⟩;have C8:w.heap.size<=X:=VM hX.symm;clear hX;have E:=h.old A0;have B1:=C4.old A0;obtain ⟨n,hn⟩:=At ((bf V.l (g:Int)).length);obtain ⟨k,hk⟩:=At V.ds.length;rw [<-hn] at E0 B1 B0;have F1:k<=4096:=(by rw [hk];exact B5.1);have L0:∀W,au (fun y=>y=V.v\/y=X\/y=V.mg) N.drew W->∀i,W.cell? ⟨V.v,i,none⟩=(aV V)[i]? :=fun W M i=>(VE (a:=⟨V.v,i,none⟩) (M.2 V.v (.inl rfl))).trans (E.blk.rule i);have L1:∀W,au (fun y=>y=V.v\/y=X\/y=V.mg) N.drew W->W.cell? ⟨X,1,none⟩=some (.int .i64 (g:Int)):=fun W M=>by
  rw [VE (a:=⟨X,1,none⟩) (M.2 X (.inr (.inl rfl))),<-hg];exact bX.cell rfl
 have L2:∀W,au (fun y=>y=V.v\/y=X\/y=V.mg) N.drew W->(Instr.lookup 90 (.map (some V.mg)) (.int .i64 (g:Int)) false).run prog W= .ok (.slice sa n sc) W:=fun W M=>B0 W ((M.2 V.mg (.inr (.inr rfl))).trans (A0.block _ h.gm.lt));unfold aV at L0;rw [<-hk] at L0;have HN:=Hd hn;have HK:=Hd hk;have HG:=Hd hg;clear hn hk hg B0 C4;refine ah true (au (fun y=>y=V.v\/y=X\/y=V.mg)) (au.refl _) (fun _ _ _ E h2=>au.trans E h2) (.step 0 (.step 1 (.step 2 (.step 3 (.step 4 (.step 5 (.step 6 (.step 7 (.step 8 (.step 9 (.step 10 (.step 11 (.step 12 (.step 13 (.step 14 (.step 15 (.step 16 (.step 17 (.step 18 (.step 19 (.step 20 .done))))))))))))))))))))) krA krA cdA ?_
 repeat refine txA ?_
 refine am rfl rfl rfA (fun K H=> ?_);go_wp2_with fail;have E1:=A0.size;have A6:=E.blk.lt;have A7:=bX.lt;have A8:=E.gm.lt;have C1:Own (N.drew.alloc (.cells #[.int .i64 (k:Int)] 3)) B 3 1 sa n sc (gD V.l g):=B1.drew.alloc _;refine H _ _ (au.below ((VW _ _).alloc (VU _) _) fun y A=>by rcases A with rfl|rfl|rfl<;>assumption) ?_
 clear H K;refine am rfl rfl rfA (fun K H=> ?_);refine gA (.tmp 16) (.tmp 22) 34 rfl sC rfl C1 rfl (av.new' N.drew #[.int .i64 (k:Int)] 3 _ rfl) rfA oA (by exact de _ rfl) mxA oA soA ?_;intro b c w2 B6 Y C9;have DO:∀r,(Value.slice sa n sc).ownBlock=some r->g<aO V.l/\r=V.f g:=fun r e=>by
  cases sa with
  |none=>cases e
  |some C=>
   obtain ⟨q1,q2⟩:=B4 C rfl;simp [Value.ownBlock] at e;exact ⟨q1,e▸q2⟩
 have A3:g<aO V.l->∃J,Blk N (V.f g) J 3:=fun q=>by
  obtain ⟨_,_,J,D⟩:=(E.rows g q).block_lt rfl;exact ⟨J,D⟩
 have E2:=Y.size;simp at E2;have o:∀y,y<N.heap.size->(∀q:g<aO V.l,y≠V.f g)->w2.heap[y]? =N.heap[y]? :=fun y A q=>by
  refine (Y.block y soA fun e=> ?_).trans (Vp _ _ _ A);obtain ⟨q1,q2⟩:=DO y e.symm;exact q q1 q2
 have nv:∀q:g<aO V.l,V.v≠V.f g:=fun q=>(by obtain ⟨J,D⟩:=A3 q;exact E.blk.ne D dcA);have nX:∀q:g<aO V.l,X≠V.f g:=fun q=>(by obtain ⟨J,D⟩:=A3 q;exact bX.ne D dcA);have nm:∀q:g<aO V.l,V.mg≠V.f g:=fun q=>(by obtain ⟨J,D⟩:=A3 q;exact fun e=>(D.ne_gmap E.gm) e.symm);refine H _ _ ⟨Y.size,fun y A=> ?_⟩ ?_
 .rcases A with rfl|rfl|rfl
  .exact (o _ A6 nv).trans (Vp _ _ _ A6).symm
  .exact (o _ A7 nX).trans (Vp _ _ _ A7).symm
  .exact (o _ A8 nm).trans (Vp _ _ _ A8).symm
 clear H K;have B2:=E.gm.keep (o _ A8 nm);obtain ⟨w3,D4,D0,Z⟩:=B2.put oV underlying90 (by rw [nf];have:=B5.2.1;unfold maxLen;omega) (kl:=nR g) (keyOf_int_mk underlying3 (by rw [<-HG.out];exact hd.game)) (Qz b (n+1) c);refine az rfl rfl rfA (fun K H=> ?_);go_wp2_with fail;refine aq ?_;have C5:=D0.perm (l':=kJ (V.l++ [x]) (upd V.f g b) (upd V.fc g c)) (by rw [HN.out];exact DZ HG.out hf V.f V.fc b c);have F2:=Z.grown.size;have A1:∀y,y<N.heap.size->(∀q:g<aO V.l,y≠V.f g)->y≠V.mg->w3.heap[y]? =N.heap[y]? :=fun y A q e=>(Z.grown.block y oA (by simpa using e)).trans (o y A q);have D1:V.v≠V.mg:=E.blk.ne_gmap E.gm;have B7:Blk w3 X (af x hx).toArray 40:=(A1 X A7 nX (bX.ne_gmap E.gm)).trans bX;have B9:Blk w3 V.v (aV V) 93:=(A1 V.v A6 nv D1).trans E.blk;have C2:Own w3 B 3 1 (some ⟨b,0,none⟩) (n+1) c (gD V.l g++ [.int .i64 (k:Int)]):=B6.keepAt fun C e=>by
  cases e;obtain ⟨_,hl,J,D⟩:=B6.block_lt rfl;exact Z.grown.block _ hl (by simpa using D.ne_gmap B2)
 have D2:Own w3 B 40 15 V.da k V.dc (eC V.ds):=by
  rw [HK.out];refine E.deeds.keepAt fun C e=> ?_;obtain ⟨_,hl,J,D⟩:=E.deeds.block_lt e;exact A1 _ hl (fun q=>by obtain ⟨E9,A4⟩:=A3 q;exact D.ne A4 dcA) (D.ne_gmap E.gm)
 have CK:aJ (fun y=>y=V.v\/y=V.mg\/(g<aO V.l/\y=V.f g)\/atB V.da y) w w3:=by
  refine (aJ.of_below A0).trans (G:=fun y=>y=V.v\/y=V.mg\/(g<aO V.l/\y=V.f g)\/atB V.da y) ⟨Z.grown.os.trans Y.os,Z.grown.tape.trans Y.tape,Z.grown.output.trans Y.output,oA,fun y A hF=>A1 y A (fun q e=>hF (.inr (.inr (.inl ⟨q,e⟩)))) fun e=>hF (.inr (.inl e))⟩ fun y A=> .inl A
 have D5:∀y,(y=V.v\/y=V.mg\/(g<aO V.l/\y=V.f g)\/atB V.da y)->ej V y:=by
  rintro y (rfl|rfl|⟨hg,rfl⟩|ha)
  .exact .inl rfl
  .exact .inr (.inr (.inr (.inr (.inl rfl))))
  .exact .inr (.inr (.inr (.inr (.inr (.inr (.inl ⟨g,hg,rfl⟩))))))
  .exact .inr (.inr (.inl ha))
 have E3:∀C,V.da=some C->C.block<w.heap.size:=fun C e=>(h.deeds.block_lt e).2.1;have D6:(g<aO V.l/\b=V.f g)\/w.heap.size<=b:=by
  rcases C9 with ⟨C,e,O⟩|h2
  .exact .inl ⟨(B4 C e).1,O.trans (B4 C e).2⟩
  .refine .inr ?_;simp at h2;omega
 have E8:b<w3.heap.size:=(C2.block_lt rfl).2.1;clear A1 o DO A3 nv nX nm D4 D0 Z B2 B6 Y C9 C1 L0 L1 L2 B1 E bX A0 A6 A7 A8 E1;go_upto_region 2 with fail;have M0:∀W,au (fun y=>y=V.v\/y=X) w3.drew W->∀i,W.cell? ⟨V.v,i,none⟩=(aV V)[i]? :=fun W M i=>(VE (a:=⟨V.v,i,none⟩) (M.2 V.v (.inl rfl))).trans (B9.rule i);have M1:∀W,au (fun y=>y=V.v\/y=X) w3.drew W->∀j (hj:j<(af x hx).length),W.cell? ⟨X,0+j,none⟩=some (af x hx)[j]:=fun W M j hj=>(VE (a:=⟨X,0+j,none⟩) (M.2 X (.inr rfl))).trans (B7.cells j hj);unfold aV at M0;rw [<-HK.out] at M0;refine ah true (au (fun y=>y=V.v\/y=X)) (au.refl _) (fun _ _ _ E h2=>au.trans E h2) (.step 0 (.step 1 (.step 2 (.step 3 (.step 4 (.step 5 (.step 6 (.step 7 (.step 8 (.step 9 (.step 10 (.step 11 .done)))))))))))) krA krA cdA ?_
 repeat refine txA ?_
 refine bM (v:= .agg (af x hx).toArray) rfl rfl rfA (fun W M=>aI 40 aZ _ rfl rfl rfl (M1 W M) rfl) ?_;simp only [Act.put,sTA,List.set];refine am rfl rfl rfA (fun K H=> ?_);go_wp2_with fail;refine (mi x hx w3.drew (A2 _ (CK.mono D5).drew)).mono ?_;rintro e I ⟨h',rfl,C6,S⟩;have D7:=B9.lt;have D8:=B7.lt;go_wp2_with fail;refine H _ _ (au.below S fun y A=>by rcases A with rfl|rfl<;>assumption) ?_
 clear H K;refine am rfl rfl rfA (fun K H=> ?_);rw [aD];have F0:(af x h').length=15:=rfl;go_wp2_with fail;rw [jT];have A9:=S.size;have E4:V.v<I.heap.size:=VP D7 A9;have E5:X<I.heap.size:=VP D8 A9;have CW:Blk I V.v (aV V) 93:=B9.drew.old S;have C0:Blk I X (af x hx).toArray 40:=B7.drew.old S;have BY:Own I B 40 15 V.da k V.dc (eC V.ds):=D2.drew.old S;have C3:Own I B 3 1 (some ⟨b,0,none⟩) (n+1) c (gD V.l g++ [.int .i64 (k:Int)]):=C2.drew.old S;have A5:=C5.keep (S.block _ C5.lt);have F3:=CK.size;refine H _ _ (au.below ((VW _ I).alloc (VU _) _) fun y A=>by rcases A with rfl|rfl<;>assumption) ?_
 clear H K;refine am rfl rfl rfA (fun K H=> ?_);refine gA (.tmp 28) (.tmp 31) 23 rfl sG rfl (BY.alloc _) rfl (av.new' I (af x h').toArray 40 _ rfl) rfA oA (by exact de _ rfl) mxA oA (by simp;simp at A9;omega) ?_;intro b2 c2 L E6 T D9;have B3:∀r,(Value.slice V.da k V.dc).ownBlock=some r->∃C,V.da=some C/\r=C.block:=fun r e=>by
  cases A2:V.da with
  |none=>rw [A2] at e;cases e
  |some C=>rw [A2] at e;simp [Value.ownBlock] at e;exact ⟨C,rfl,e.symm⟩
 have s:∀y cs t,Blk I y cs t->(t=40->w.heap.size<=y)->L.heap[y]? =I.heap[y]? :=fun y cs t D q=>by
  refine (T.block y (by simp;have:=D.lt;omega) fun e=> ?_).trans (Vp _ _ _ D.lt);obtain ⟨C,U,O⟩:=B3 y e.symm;obtain ⟨_,_,J,A4⟩:=BY.block_lt U;subst O;by_cases ht:t=40
  .have:=q ht;have:=E3 C U;omega
  .exact D.ne A4 ht rfl
 have m:Blk L V.v (aV V) 93:=(s _ _ _ CW (fun e=>absurd e dcA)).trans CW;have F4:Blk L X (af x hx).toArray 40:=(s _ _ _ C0 (fun _=>C8)).trans C0;refine H _ _ ⟨T.size,fun y A=> ?_⟩ ?_
 .rcases A with rfl|rfl
  .exact (s _ _ _ CW (fun e=>absurd e dcA)).trans (Vp _ _ _ E4).symm
  .exact (s _ _ _ C0 (fun _=>C8)).trans (Vp _ _ _ E5).symm
 clear H K
 repeat refine txA ?_
 have f5:=m.free;have c5:L.cell? ⟨V.v,2,none⟩=some (.slice V.da V.ds.length V.dc):=m.cell rfl;refine az rfl rfl rfA (fun K H=> ?_);go_wp2_with fail;refine aq ?_;go_wp2_with fail;go_end0;have F5:∀y cs t,Blk L y cs t->t≠93->y≠V.v:=fun y cs t D ht=>D.ne m ht;have EE:iV L prog 3 Rs V.mg (kJ (V.l++ [x]) (upd V.f g b) (upd V.fc g c)):=A5.keep (by
  refine (T.block V.mg (by simp;have:=A5.lt;omega) fun e=> ?_).trans (Vp _ _ _ A5.lt);obtain ⟨C,U,O⟩:=B3 _ e.symm;obtain ⟨_,_,J,A4⟩:=BY.block_lt U;exact (A4.ne_gmap A5) O.symm)
 have D3:Own L B 3 1 (some ⟨b,0,none⟩) (n+1) c (gD V.l g++ [.int .i64 (k:Int)]):=C3.keepAt fun C e=>by
  obtain ⟨_,hl,J,D⟩:=C3.block_lt e;exact s _ _ _ D (fun e=>absurd e dcA)
 have C7:be L w3.drew.heap.size x h':=C6.keepB fun y A=>by
  obtain ⟨_,_,J,t,D,ht⟩:=C6.innerLt A;exact s _ _ _ D (fun e=>by rcases ht with rfl|rfl<;>exact absurd e dcA)
 have E7:aJ (fun y=>y=V.v\/y=V.mg\/(g<aO V.l/\y=V.f g)\/atB V.da y) w L:=by
  have t1:aJ (fun y=>y=V.v\/y=V.mg\/(g<aO V.l/\y=V.f g)\/atB V.da y) w3 I:=aJ.of_below (sP S);have t2:aJ (fun y=>y=V.v\/y=V.mg\/(g<aO V.l/\y=V.f g)\/atB V.da y) (I.alloc (.cells (af x h').toArray 40)) L:=⟨T.os,T.tape,T.output,T.size,fun y A hF=>T.block y A fun e=>by
   obtain ⟨C,U,O⟩:=B3 y e.symm;exact hF (.inr (.inr (.inr ⟨C,U,O⟩)))⟩
  exact (CK.trans t1 fun _ h=> .inl h).trans (((aJ.refl _ I).alloc _).trans t2 fun _ h=> .inl h) fun _ h=> .inl h
 have EQ:=Gi (w':=L.setCell ⟨V.v,2,none⟩ (.slice (some ⟨b2,0,none⟩) (k+1) c2)) h (h':=h') (g:=g) (b:=b) (c:=c) (b2:=b2) (c2:=c2) HG.out hm hf hd.okD hc
  (E7.setCell (x:=⟨V.v,2,none⟩) (.inl (.inl rfl)) _) (by
   have:=m.set 2 (.slice (some ⟨b2,0,none⟩) (k+1) c2);rw [HK.out] at this⊢;simpa [aV,pm] using this) (EE.keep (Vq L ⟨V.v,2,none⟩ V.mg _ fun e=>D1 e.symm))
  (by rw [<-HN.out,<-HK.out];exact D3.setCell_apart m dcA 2 _) D6 (by rw [<-HK.out];exact E6.setCell_apart m dcA 2 _)
  (D9.imp (fun ⟨C,U,O⟩=>⟨C,U,O⟩) (fun q=>by simp at q;simp at A9;omega)) ((C7.cell1 m dcA dcA _).lower soA)
  (fun y A=>by
   have q:=(C7.innerLt A).1;simp at q;exact ⟨oA,oA⟩)
 exact ⟨_,rfl,EQ,Hv _ _ _ _ _ _ _ _,rfl,rfl⟩
def Iu (B d:Nat) (w:As) (V:aR) (load:Le) (e:Ending) (w':As):Prop:=∃(hx:aY) (bl:List (Nat×Nat)),e= .returned (.tuple #[dG (bG V.m V.l load).1 hx,.bool (bG V.m V.l load).2])/\be w' w.heap.size (bG V.m V.l load).1 hx/\iJ B d w V w' {V with bl:=bl}/\aJ (fun x=>x=V.mb) w w'
section
variable {w w':As} {B d:Nat} {V:aR}
theorem aj.notMap {a:Lt} {l:Le} (h:aj w a l) {P:Program} {k:TypeId} {R:Value->Option (DU×List MemPlace)} {M:Nat} {C:List (Lit×DU)} (E:iV w P k R M C) (G:aJ (fun x=>x=M) w w'):aj w' a l:=by
 intro i H;obtain ⟨b,o,e,A⟩:=h i H;refine ⟨b,o,e,?_⟩;have D:=Vx w _ A;rw [VE (a:=⟨b,o+i,none⟩) (G.block b D ?_)]
 .exact A
 .rintro rfl;obtain ⟨C,J,I⟩:=E.obj;simp [World.cell?,I] at A
theorem aJ.undrew' {F:Nat->Prop} {a b:As} (h:aJ F a.drew b):aJ F a b:=⟨h.os,h.tape,h.output,h.size,h.block⟩
theorem iJ.ext {w3 D:As} {C:aR} {X:Nat} (A:iJ B d w V w3 C) (h:aP w B d V) (E:aJ (fun x=>x=X) w3 D) (H:w.heap.size<=X) (G:¬ej C X):iJ B d w V D C:=by
 refine ⟨A.turn.trans E fun k I=> .inr (I▸H),A.at'.keep fun x hx=>E.block x (A.at'.lt hx).2 fun e=> ?_,A.foot',A.R,A.v,A.m,A.down⟩;subst e;rcases hx with hx|hx
 .rw [A.R] at hx;have:=(h.log.lt hx).2;omega
 .exact G hx
theorem aP.rowLook (h:aP w B d V) {g:Nat} (J:g<=4096):∃(H:Lt) (I:Nat),∀W,W.heap[V.mg]? =w.heap[V.mg]?->(Instr.lookup 90 (.map (some V.mg)) (.int .i64 (g:Int)) false).run prog W= .ok (.slice H (ofG V.l (g:Int)).length I) W:=by
 by_cases G:g<aO V.l
 .refine ⟨some ⟨V.f g,0,none⟩,V.fc g,fun W A=> ?_⟩;have C:=qK (n:=g) oA;obtain ⟨v,ps,D,E⟩:=(h.gm.keep A).look oV underlying90 (kN W) (show Rs (.slice none 0 0)=some (.agg [],[]) from rfl) C (jS G);rw [D,zV E,fl]
 .rw [h.good.none (g:=(g:Int)) oA];refine ⟨none,0,fun W A=> ?_⟩;have C:=qK (n:=g) oA;obtain ⟨v,ps,D,E⟩:=(h.gm.keep A).look_no oV underlying90 (kN W) (show Rs (.slice none 0 0)=some (.agg [],[]) from rfl) C (uB oA);rw [D,uL E];rfl
theorem vF (m:Le) (g n:Nat) (b:Le):(fO m g n b).1.length<=b.length:=by
 unfold fO;split
 .dsimp only;rw [eM,ltA];omega
 .simp
end
theorem xd (w:As) (B d:Nat) (V:aR) (h:aP w B d V) (hB:B<=w.heap.size) (a:Lt) (n c:Nat) (load:Le) (hl:aj w a load) (hn:load.length=n) (hc:n<=c) (hm:n<=65536):
  Calls prog 50 #[.pointer (some ⟨V.v,0,none⟩),.slice a n c] w (Iu B d w V load):=by
 obtain ⟨S,hS⟩:=At (Iu B d w V load);rw [<-hS];have HS:=Hd hS;clear hS;go_enter func50,ntmps50;go_upto_region 2 with fail;obtain ⟨X,hX⟩:=At w.heap.size;rw [<-hX];refine ag (fun W=>Blk W X cM 40/\rj W w.heap.size (X+1) ⟨load,false⟩ a n c/\Below w.heap.size w W) ⟨by subst hX;exact Blk.new2 w _ _ _,?_,by subst hX;exact cL⟩ ?_
 .exact ⟨by subst hX;exact Blk.new2' w _ _ _,(hl.alloc _).alloc _,hn,hc,oA,hl.inB hn⟩
 rintro W1 ⟨bX,BY,B0⟩;have A4:w.heap.size<=X:=VM hX.symm;clear hX;obtain ⟨C,hC⟩:=At (X+1);rw [<-hC] at BY⊢;have D4:X≠C:=oA;have E4:w.heap.size<=C:=oA;clear hC;go_wp2_with fail;refine (gi w.heap.size C _ a n c _ BY).mono ?_;rintro e O ⟨a2,n2,c2,rfl,s,B1⟩;have I:Blk O X cM 40:=(B1.block X bX.lt D4).trans bX;have T:Below w.heap.size w O:=B0.trans (B1.below (fun x hx=>by omega) B0.size);have Y:=h.old T;have E1:(bp ⟨load,false⟩).2.b.length<=65536:=by
  have:=gd ⟨load,false⟩;dsimp only at this;omega
 have E5:=jC ⟨load,false⟩;obtain ⟨U,Z⟩:=At (bG V.m V.l load);have A5:=Z;unfold bG at A5;dsimp only at A5;generalize (bp ⟨load,false⟩).1=D at*;generalize (bp ⟨load,false⟩).2=R at*;have HU:=Hd A5;have C5:=Hd Z;clear Z A5 BY B1 bX B0;have cb:O.cell? ⟨C,1,none⟩=some (.bool R.bad):=s.cur.cell rfl;have hs:=Y.blk.rule;unfold aV at hs;have B2:=Y.size;have bad:(R.bad=true\/D<0\/(aO V.l:Int)<D)->U=(kE,false):=fun e=>(by rw [HU.out,Vz e]);have C1:¬(R.bad=true\/D<0\/(aO V.l:Int)<D)->U=(if (fO V.m D.toNat (ofG V.l D).length R.b).2≠0 then (kE,false) else ((gB (fO V.m D.toNat (ofG V.l D).length R.b).1).1,decide ((gB (fO V.m D.toNat (ofG V.l D).length R.b).1).2=0/\(gB (fO V.m D.toNat (ofG V.l D).length R.b).1).1.game=D)&&bz V.l (gB (fO V.m D.toNat (ofG V.l D).length R.b).1).1)):=fun e=>(by rw [HU.out,VV e]);have HB:=Hd bad;have HG:=Hd C1;clear bad C1 HU;have early:∀W,U=(kE,false)->Blk W X cM 40->(bl:List (Nat×Nat))->iJ B d w V W {V with bl:=bl}->aJ (fun x=>x=V.mb) w W->Iu B d w V load (.returned (.tuple #[.agg cM,.bool false])) (W.setRow X cM):=fun W Z hb bl hv ht=>by
  unfold Iu;rw [<-C5.out,Z,hb.setRow_self];exact ⟨dN,bl,rfl,ep _ _,hv,ht⟩
 cases A6:R.bad with
 |true=>
  rw [A6] at cb;have J:=HB.out (.inl A6);have o:=early O J I V.bl (iJ.old h T) (aJ.of_below T);clear B2;go_wp2_with (first|refine ap rfl 40 aZ (.tmp 4) rfl rfl I rfl ?_|refine ae rfl 40 aZ (.tmp 4) _ rfl rfl rfl I rfl rfl rfA ?_);refine aX rfl aZ rfl (I.setRow _) rfl rfl rfl ?_;rw [HS.out];exact o
 |false=>
  rw [A6] at cb;by_cases h0:D<0
  .have J:=HB.out (.inr (.inl h0));have o:=early O J I V.bl (iJ.old h T) (aJ.of_below T);have t0:decide (D<0)=true:=VK h0;clear B2;go_wp2_with (first|refine ap rfl 40 aZ (.tmp 4) rfl rfl I rfl ?_|refine ae rfl 40 aZ (.tmp 4) _ rfl rfl rfl I rfl rfl rfA ?_);refine aX rfl aZ rfl (I.setRow _) rfl rfl rfl ?_;rw [HS.out];exact o
  have t0:decide (D<0)=false:=VO h0;by_cases h1:(aO V.l:Int)<D
  .have J:=HB.out (.inr (.inr h1));have o:=early O J I V.bl (iJ.old h T) (aJ.of_below T);have t1:decide ((aO V.l:Int)<D)=true:=VK h1;go_wp2_with (first|refine ap rfl 40 aZ (.tmp 4) rfl rfl I rfl ?_|refine ae rfl 40 aZ (.tmp 4) _ rfl rfl rfl I rfl rfl rfA ?_);refine aX rfl aZ rfl (I.setRow _) rfl rfl rfl ?_;rw [HS.out];exact o
  have t1:decide ((aO V.l:Int)<D)=false:=VO h1;have M:=HG.out (by rw [A6];simp;omega);obtain ⟨g,rfl⟩:∃g:Nat,D=(g:Int):=⟨D.toNat,oA⟩;rw [WN] at M;have D5:=h.small;have B3:g<=4096:=oA;obtain ⟨sa,sc,A9⟩:=Y.rowLook B3;obtain ⟨n,hn⟩:=At ((ofG V.l (g:Int)).length);rw [<-hn] at A9 M;have D6:n<=4096:=(by rw [hn,<-fl];exact D5.2.2 _);have CW:=Hd M;have HN:=Hd hn;clear M HB HG hn;go_upto_region 5 with fail;clear hs B2 cb;have D7:V.v≠V.mb:=Y.blk.ne_gmap Y.bm;have D8:C≠V.mb:=s.cur.ne_gmap Y.bm;have L0:∀W,But V.mb O.drew W->∀i,W.cell? ⟨V.v,i,none⟩=(aV V)[i]? :=fun W A=>(Y.blk.drew.but A D7).rule;have L1:∀W,But V.mb O.drew W->W.cell? ⟨C,0,none⟩=some (.slice a2 n2 c2):=fun W A=>(s.cur.drew.but A D8).cell rfl;have L2:∀W,But V.mb O.drew W->(Instr.lookup 90 (.map (some V.mg)) (.int .i64 (g:Int)) false).run prog W= .ok (.slice sa n sc) W:=fun W A=>A9 W (A.2 V.mg Y.gm.lt Y.ge.2.2.2);have J:IntKind.u64.wrap (n:Int)=(n:Int):=by
   simp only [IntKind.wrap,IntKind.bits,IntKind.signed];simp;omega
  unfold aV at L0;refine cO V.mb (.step 0 (.step 1 (.step 3 (.step 4 (.step 5 (.step 6 (.step 7 (.step 8 (.step 9 (.step 10 (.step 11 (.step 12 (.step 13 (.step 14 (.step 2 (.step 15 (.step 16 (.step 17 (.step 18 (.step 19 (.step 20 .done))))))))))))))))))))) krA krA cdA ?_
  repeat refine txA ?_
  refine am rfl rfl rfA (fun K H=> ?_);go_wp2_with fail;have C6:aP O.drew B d V:=Y.old (VW _ _).drew;refine (yM O.drew B d V C6 (by have:=T.size;simp;omega) g B3).mono ?_;rintro e f ⟨bb,bl,rfl,D9,A7,A1⟩;go_wp2_with fail;refine H _ _ ⟨A1.size,fun x hx C7=>A1.block x hx C7⟩ ?_;clear H K;have D0:aj f a2 R.b:=aj.notMap (w:=O.drew) s.read C6.bm A1;have B4:¬ej {V with bl:=bl} X:=fun hv=>by
   rcases A7.foot' X hv with q|q
   .have:=(h.ltR q).2;omega
   .have:=I.lt;simp at q;omega
  have C2:iJ B d w V f {V with bl:=bl}:=(iJ.old h T).trans ⟨A7.turn.undrew',A7.at',A7.foot',rfl,rfl,rfl,rfl⟩;have C8:aJ (fun x=>x=V.mb) w f:=(aJ.of_below (F:=fun x=>x=V.mb) T).trans (aJ.off A1) fun _ q=> .inl q;have EE:Blk f X cM 40:=(A1.block X I.lt (I.ne_gmap Y.bm)).trans I;clear A9 L0 L1 L2
  repeat refine txA ?_
  refine am rfl rfl rfA (fun K H=> ?_);go_wp2_with fail;have co:=Cq bb V.m g n a2 n2 c2 R.b f D9 D0 s.hl s.h1 (Xl B3 dcA) (Xl D6 dcA) (Vd s.max dcA);refine co.mono ?_;clear co;rintro e W4 ⟨la,lk,lc,l,er,rfl,B5,EQ,C9,t,D1⟩;go_wp2_with fail;refine H _ _ ⟨t.size,fun x hx C7=>t.block x hx⟩ ?_;clear H K
  repeat refine txA ?_
  refine aq ?_;have E2:lk<=65536:=by
   have q:=vF V.m g n R.b;rw [B5] at q;dsimp only at q;omega
  have A2:=EE.old t;have t4:aJ (fun x=>x=X) f W4:=aJ.of_below t;have M:=CW.out;rw [B5] at M;dsimp only at M;by_cases y:er=0;rotate_left 1
  .rw [Vz y] at M;have o:=early W4 M A2 bl (C2.ext h t4 A4 B4) (C8.trans (aJ.of_below t) fun _ q=> .inl q);have te:(er !=0)=true:=(by simpa using y);go_wp2_with (first|refine ap rfl 40 aZ (.tmp 4) rfl rfl A2 rfl ?_|refine ae rfl 40 aZ (.tmp 4) _ rfl rfl rfl A2 rfl rfl rfA ?_);refine aX rfl aZ rfl (A2.setRow _) rfl rfl rfl ?_;rw [HS.out];exact o
  subst y;rw [VV skA] at M;have cr:=BP W4 la lk lc l C9 EQ oA D1;unfold jV at cr;generalize (gB l).1=p at*;generalize (gB l).2=er at*;have HU:=Hd M;clear M CW B5 C9;go_wp2_with fail;refine cr.mono ?_;clear cr;rintro e W5 ⟨E,rfl,C3,B6⟩;have A8:=A2.old B6;rw [aD];go_upto_region 9 with (refine ae rfl 40 aZ (.tmp 4) _ rfl rfl rfl A8 rfl rfl rfA ?_);have t6:aJ (fun x=>x=X) f (W5.setRow X (af p E).toArray):=by
   refine (t4.trans (aJ.of_below (F:=fun x=>x=X) B6) fun _ q=> .inl q).trans (G:=fun x=>x=X) ⟨rfl,rfl,rfl,by simp [World.setRow],fun k _ hk=>Xi W5 X k _ hk⟩ fun _ q=> .inl q
  refine ag (fun W=>Blk W X (af p E).toArray 40/\be W w.heap.size p E/\aJ (fun x=>x=X) f W) ⟨A8.setRow _,(C3.row1 A8 dcA dcA _).lower (by have:=T.size;have:=A1.size;have:=t.size;simp at*;omega),t6⟩ ?_;rintro L ⟨N,D2,t6⟩;clear t4 t A2 B6 A8 C3;have DO:=C2.ext h t6 A4 B4;have E0:∀W,Below L.heap.size L W->aJ (fun x=>x=V.mb) w W:=fun W A=>(C8.trans t6 fun k hk=> .inr (hk▸A4)).trans (aJ.of_below (F:=fun x=>x=V.mb) A) fun _ q=> .inl q;have C4:∀W b,Below L.heap.size L W->U=(p,b)->Iu B d w V load (.returned (.tuple #[.agg (af p E).toArray,.bool b])) (W.setRow X (af p E).toArray):=fun W b A Z=>by
   have bX:Blk W X (af p E).toArray 40:=N.old A;rw [bX.setRow_self];unfold Iu;rw [<-C5.out,Z];exact ⟨E,bl,rfl,D2.old A,DO.ext h ((aJ.of_below (F:=fun x=>x=X) A)) A4 B4,E0 W A⟩
  have E3:=t6.size;have M1:∀W,Old L.drew W->∀j (hj:j<(af p E).length),W.cell? ⟨X,0+j,none⟩=some (af p E)[j]:=fun W A j hj=>(N.drew.old A).cells j hj;have M2:∀W,Old L.drew W->W.cell? ⟨X,1,none⟩=some (.int .i64 p.game):=fun W A=>(N.drew.old A).cell rfl;have sp:cU (af p E).toArray 0 (af p E).toArray=(af p E).toArray:=rfl;have C0:∀W b,Below L.heap.size L W->U=(p,b)->Iu B d w V load (.returned (.tuple #[.agg (af p E).toArray,.bool b])) W:=fun W b A Z=>by
   have:=C4 W b A Z;rwa [Blk.setRow_self (N.old A)] at this
  have B7:∀W (a':Act) b,Blk W X (af p E).toArray 40->a'.tmps.getD 4 undef= .pointer (some ⟨X,0,none⟩)->a'.tmps.getD 5 undef= .bool b->a'.defers=[]->Below L.heap.size L W->U=(p,b)->bodyPost prog Tryz.f50 S .ret a' W:=fun W a' b bX e1 e2 e3 A Z=>by
   refine aX rfl aZ e1 bX rfl e2 e3 ?_;rw [HS.out];exact C0 W b A Z
  clear C4 C0;by_cases y:er=0;rotate_left 1
  .have te:(er==0)=false:=(by simpa using y);have J:U=(p,false):=(by rw [HU.out,VO (fun q=>y q.1)];rfl);refine bR (0::1::2::3::4::5::6::7::8::9::10::11::12::13::14::[]) krA krA cdA ?_;refine eA (v:= .agg (af p E).toArray) rfl rfl rfA (fun W A=>aI 40 aZ _ rfl rfl rfl (M1 W A) rfl) ?_;simp only [Act.put,sTA,List.set]
   repeat refine gxA ?_
   refine bV rfl rfl rfA (fun K H=> ?_);refine bq 40 aZ _ _ rfl rfl rfl N.drew rfl (VU 15) rfA ?_;rw [sp,Blk.setRow_self N.drew];refine H _ _ (VW _ _) ?_;clear H K
   repeat refine gxA ?_
   refine eS ?_;go_wp2_with fail;exact B7 _ _ false N.drew rfl rfl rfl (VW _ _).drew J
  subst y;by_cases A3:p.game=(g:Int);rotate_left 1
  .have te:(p.game==(g:Int))=false:=(by simpa using A3);have J:U=(p,false):=(by rw [HU.out,VO (fun q=>A3 q.2)];rfl);refine bR (0::1::2::3::4::5::6::7::8::9::10::11::12::13::14::[]) krA krA cdA ?_;refine eA (v:= .agg (af p E).toArray) rfl rfl rfA (fun W A=>aI 40 aZ _ rfl rfl rfl (M1 W A) rfl) ?_;simp only [Act.put,sTA,List.set]
   repeat refine gxA ?_
   refine bV rfl rfl rfA (fun K H=> ?_);refine bq 40 aZ _ _ rfl rfl rfl N.drew rfl (VU 15) rfA ?_;rw [sp,Blk.setRow_self N.drew];refine H _ _ (VW _ _) ?_;clear H K
   repeat refine gxA ?_
   refine eS ?_;go_wp2_with fail;exact B7 _ _ false N.drew rfl rfl rfl (VW _ _).drew J
  have J:U=(p,bz V.l p):=(by rw [HU.out,VK ⟨rfl,A3⟩,WU]);have te:(p.game==(g:Int))=true:=(by simpa using A3);have E6:=Hd A3;clear A3;refine bR (0::1::2::3::4::5::6::7::8::9::10::11::12::13::14::[]) krA krA cdA ?_;refine eA (v:= .agg (af p E).toArray) rfl rfl rfA (fun W A=>aI 40 aZ _ rfl rfl rfl (M1 W A) rfl) ?_;simp only [Act.put,sTA,List.set]
  repeat refine gxA ?_
  refine bV rfl rfl rfA (fun K H=> ?_);go_wp2_with fail;refine (om L.drew B d _ (DO.at'.old (VW _ _).drew) X p E N.drew).mono ?_;rintro e W7 ⟨rfl,A0⟩;go_wp2_with fail;refine H _ _ A0 ?_;clear H K;have B9:Blk W7 X (af p E).toArray 40:=N.drew.old A0;have D3:Below L.heap.size L W7:=⟨A0.os,A0.tape,A0.output,A0.size,A0.block⟩;obtain ⟨fo,CK⟩:=At (bz ({V with bl:=bl}:aR).l p);rw [<-CK];replace J:U=(p,fo):=(by rw [J,CK];rfl);clear CK;cases fo
  all_goals
   repeat refine gxA ?_
   refine bV rfl rfl rfA (fun K H=> ?_)
   refine bq 40 aZ _ _ rfl rfl rfl B9 rfl (VU 15) rfA ?_
   rw [sp,Blk.setRow_self B9]
   refine H _ _ (VW _ _) ?_
   clear H K
   repeat refine gxA ?_
   refine eS ?_
   go_wp2_with fail
   exact B7 _ _ _ B9 rfl rfl rfl D3 J
end
section
open Go.RowKit
theorem xr {b:Le} (h:je b=true):b=bo (gw b)++b.drop (8+fB b)/\1<=(gw b).length/\(gw b).length<=65536:=by
 unfold je at h;simp only [Vh,WW,XY] at h;obtain ⟨⟨⟨⟨D,E⟩,G⟩,A⟩,C⟩:=h;have H:=um A;refine ⟨?_,oA,oA⟩;unfold bo;rw [<-C];have e:gw b=(b.drop 8).take (fB b):=rfl;rw [e,Vf,<-XW,WP,WP]
theorem qe:∀(f:Nat) (b:Le),b=aA (scan f b).1++(scan f b).2/\Lv (scan f b).1
 |0,b=>⟨by simp [scan,aA],by intro x hx;simp [scan] at hx⟩
 |f+1,b=>by
  by_cases h:je b=true
  .obtain ⟨A,C,D⟩:=xr h;obtain ⟨E,G⟩:=qe f (b.drop (8+fB b));rw [jK h];refine ⟨?_,?_⟩
   .show b=aA (gw b::(scan f (b.drop (8+fB b))).1)++(scan f (b.drop (8+fB b))).2;rw [show aA (gw b::(scan f (b.drop (8+fB b))).1)=bo (gw b)++aA (scan f (b.drop (8+fB b))).1 by simp [aA],Vf,<-E];exact A
   .intro x hx;rcases Vk.1 hx with rfl|hx
    .exact ⟨C,D⟩
    .exact G x hx
  .have h:je b=false:=(by simpa using h);rw [ip h];exact ⟨by simp [aA],by intro x hx;cases hx⟩
theorem wl (p:aN) (nm:bB) (g:dJ->dJ) (A:∀f,(g f).name=f.name):fF (kF p nm g) nm=(fF p nm).map g:=by
 unfold fF kF BV;dsimp only
 induction p.fs with
 |nil=>rfl
 |cons x l ih=>
  rw [WG,XK,XK];by_cases h:x.name=nm
  .rw [Vz h];simp [A,h]
  .rw [VV h];simp only [h,decide_false];exact ih
theorem Kj {p:aN} (h:(dL p).2=0):(dL p).1.fs=p.fs/\(dL p).1.down=p.down:=by
 unfold dL at h⊢;by_cases A:p.armed=false
 .rw [Vz A];exact ⟨rfl,rfl⟩
 .rw [VV A] at h⊢;by_cases C:0<p.left
  .rw [Vz C];exact ⟨rfl,rfl⟩
  .rw [VV C] at h;cases h
theorem Hr {p:aN} {nm:bB} {g:dJ->aN×Int} (h:(mp p nm g).2=0):p.down=false/\∃f,fF p nm=some f/\mp p nm g=g f:=by
 unfold mp at h⊢;cases A:p.down with
 |true=>rw [A] at h;cases h
 |false=>
  rw [A] at h;cases C:fF p nm with
  |none=>rw [C] at h;cases h
  |some f=>exact ⟨rfl,f,rfl,rfl⟩
theorem ki {p:aN} {nm:bB} {f:dJ} (A:p.down=false) (C:fF p nm=some f):bN p nm=(f.b,0):=by
 unfold bN;rw [A,C];rfl
theorem IY {p:aN} {nm:bB} (h:(et p nm).2=0):∃f,fF p nm=some f/\p.down=false/\bN (et p nm).1 nm=(f.b,0):=by
 obtain ⟨D,f,C,e⟩:=Hr h;have e:et p nm=_:=e;rw [e] at h⊢
 try dsimp only at h⊢
 by_cases A:(dL p).2=0
 .rw [Vz A];obtain ⟨G,H⟩:=Kj A;have E:fF (dL p).1 nm=some f:=(by unfold fF at C⊢;rw [G];exact C);refine ⟨f,C,D,?_⟩;refine ki (f:={f with sure:=f.b.length}) ?_ ?_
  .show (dL p).1.down=false;rw [H];exact D
  .exact (wl (dL p).1 nm (fun f=>{f with sure:=f.b.length}) (fun _=>rfl)).trans (by rw [E];rfl)
 .rw [VV A] at h;exact absurd h A
theorem Ij {p:aN} {nm:bB} {n:Int} (h:(jF p nm n).2=0):∃f,fF p nm=some f/\p.down=false/\0<=n/\n<=(f.b.length:Int)/\bN (jF p nm n).1 nm=(f.b.take n.toNat,0):=by
 obtain ⟨A,f,C,e⟩:=Hr h;have e:jF p nm n=_:=e;rw [e] at h⊢
 try dsimp only at h⊢
 by_cases D:n<0\/(f.b.length:Int)<n
 .rw [Vz D] at h;cases h
 .rw [VV D];refine ⟨f,C,A,oA,oA,?_⟩;refine ki (f:={f with b:=f.b.take n.toNat,sure:=n.toNat}) A ?_;exact (wl p nm (fun f=>{f with b:=f.b.take n.toNat,sure:=n.toNat}) (fun _=>rfl)).trans (by rw [C];rfl)
theorem JL {p:aN} {nm:bB} (h:(fd p nm).2=0):bN (fd p nm).1 nm=([],0):=by
 unfold fd at h⊢;split at h
 .cases h
 .rename_i hd;split at h
  .cases h
  .rename_i hn;split at h
   .cases h
   .rename_i hs;split at h
    .cases h
    .rename_i hc;rw [VV hd,VV hn,VV hs,VV hc];refine ki (f:=⟨nm,[],0⟩) (by simpa using hd) ?_;unfold fF at hs⊢;dsimp only;rw [ZT];cases A:p.fs.find? (fun f=>decide (f.name=nm)) with
     |none=>simp
     |some f=>rw [A] at hs;simp at hs
theorem AB (p:aN) (nm:bB) (h:(bN p nm).2≠0):(bN p nm).1=[]:=by
 unfold bN at h⊢;cases A:p.down with
 |true=>rfl
 |false=>
  rw [A] at h;cases C:fF p nm with
  |none=>rfl
  |some f=>rw [C] at h;simp at h
theorem nN {p:aN} {nm:bB} (h:en p nm=0):bN (gN p nm) nm=(aA (dt p nm).1,0)/\Lv (dt p nm).1/\(dt p nm).1.length<=4096:=by
 have A:(cQ p nm).2=0:=by
  by_cases e:(cQ p nm).2=0
  .exact e
  .rw [(ub e).1] at h;exact absurd h e
 have G:(br p nm).2=0:=by
  by_cases e:(br p nm).2=0
  .exact e
  .rw [(qx A e).1] at h;exact absurd h e
 have J:=nO A G;rw [J.1] at h;rw [J.2];have D:=qe ju (bN p nm).1;have L:(dt p nm)=scan ju (bN p nm).1:=rfl;rw [<-L] at D;refine ⟨?_,D.2,by rw [L];have:=nI ju (bN p nm).1;rw [jD] at this⊢;exact this⟩;have I:bN (cQ p nm).1 nm=((bN p nm).1,0):=by
  unfold cQ at A⊢;by_cases C:(bN p nm).2=4
  .rw [Vz C] at A⊢;rw [JL A,AB p nm (by rw [C];decide)]
  .rw [VV C] at A⊢;dsimp only at A⊢;rw [<-A]
 obtain ⟨f,U,W,R⟩:=IY (show (et (br p nm).1 nm).2=0 from h);have X:bN (eo p nm).1 nm=(f.b,0):=R;rw [X];have E:bN (br p nm).1 nm=(f.b,0):=ki W U;by_cases H:(dt p nm).2.length=0
 .have e3:br p nm=((cQ p nm).1,0):=(by unfold br;rw [Vz H]);rw [e3] at E;rw [I] at E;have C:=(Prod.mk.inj E).1;rw [<-C];have:(dt p nm).2=[]:=VX H;rw [this,WO] at D;rw [<-D.1]
 .have e3:br p nm=jF (cQ p nm).1 nm ((((bN p nm).1.length-(dt p nm).2.length:Nat)):Int):=(by unfold br;rw [VV H]);rw [e3] at E G;obtain ⟨f2,S,T,Y,Z,N⟩:=Ij G;rw [N] at E;have C:=(Prod.mk.inj E).1;rw [<-C];have M:=ki T S;rw [I] at M;rw [<-(Prod.mk.inj M).1,WN];have O:(bN p nm).1.length=(aA (dt p nm).1).length+(dt p nm).2.length:=by
   conv=>lhs;rw [D.1]
   rw [laA]
  rw [O,Xm];conv=>lhs;rw [D.1]
  rw [Yq]
theorem sr {p:aN} {nm:bB} (h:en p nm=0) (k:Nat) (G:(jF (gN p nm) nm ((aA ((dt p nm).1.take k)).length:Int)).2=0):
  dt (jF (gN p nm) nm ((aA ((dt p nm).1.take k)).length:Int)).1 nm=((dt p nm).1.take k,[]):=by
 obtain ⟨H,I,T⟩:=nN h;obtain ⟨f,J,L,R,S,C⟩:=Ij G;have D:=ki L J;rw [H] at D;rw [<-(Prod.mk.inj D).1,WN] at C;generalize O:(dt p nm).1=ls at*;have E:aA ls=aA (ls.take k)++aA (ls.drop k):=by
  unfold aA;rw [<-YJ,<-VF,WP]
 have M:(aA ls).take (aA (ls.take k)).length=aA (ls.take k):=by
  conv=>lhs;rw [E]
  rw [Yq]
 have A:=oo ju (ls.take k) [] (fun x hx=>I x (List.mem_of_mem_take hx)) (by rw [jD,ltA];omega);have N:scan (ju-(ls.take k).length) []=([],[]):=ip (jd skA);rw [WO,N] at A;simp only [WO] at A;show scan ju (bN (jF (gN p nm) nm ((aA (ls.take k)).length:Int)).1 nm).1=_;rw [C];dsimp only;rw [M];exact A
def oJ (p:aN) (nm:bB) (m:Le):List ao:=fN m [] (dt p nm).1
def jx (p:aN) (nm:bB) (m:Le):Nat:=(aA ((dt p nm).1.take (oJ p nm m).length)).length
def eh (p:aN) (nm:bB) (m:Le):aN×Int:=jF (gN p nm) nm (jx p nm m:Int)
def eO (p:aN) (nm:bB) (m:Le):Bool:=decide ((oJ p nm m).length=(dt p nm).1.length)
def kA (p:aN) (nm:bB) (m:Le):Int:=if en p nm≠0 then en p nm else if eO p nm m then 0 else if (eh p nm m).2≠0 then (eh p nm m).2 else en (eh p nm m).1 nm
def rD (p:aN) (nm:bB) (m:Le):aN:=if en p nm≠0 then gN p nm else if eO p nm m then gN p nm else if (eh p nm m).2≠0 then (eh p nm m).1 else gN (eh p nm m).1 nm
def pQ (p:aN) (nm:bB) (m:Le):Nat:=if eO p nm m then iG p nm else iG p nm+((aA (dt p nm).1).length-jx p nm m)
def rC (p:aN) (nm:bB) (m:Le):List Le:=(dt p nm).1.take (oJ p nm m).length
theorem yX (m:Le):∀(ls:List Le) (l:List ao),l.length<=(fN m l ls).length/\(fN m l ls).length<=l.length+ls.length
 | [],l=>⟨VU _,VU _⟩
 |x::r,l=>by
  rw [fN];split
  .have:=yX m r (l++ [(bG m l x).1]);simp at this⊢;omega
  .simp
theorem BW {m:Le} {l:List ao} {load:Le} (h:(bG m l load).2=true):iE (bG m l load).1=true/\bz l (bG m l load).1=true:=by
 unfold bG at h⊢;dsimp only at h⊢;split at h
 .cases h
 .rename_i h1;rw [VV h1];split at h
  .cases h
  .rename_i h2;rw [VV h2];simp only [Vh,WW] at h;obtain ⟨⟨A,D⟩,C⟩:=h;refine ⟨?_,C⟩;exact (FC (p:=(gB (fO m (bp ⟨load,false⟩).1.toNat (ofG l (bp ⟨load,false⟩).1).length (bp ⟨load,false⟩).2.b).1).1) (Prod.ext rfl A)).1
end
section
open Go Go.RowKit
variable {F:Fence} {n:Nat} {P:Program} {w:As}
def wP {α:Type} (F:Fence) (n:Nat) (P:Program) (g:Nat) (lb:AS) (bt:α->AS) (M:List α->α->World->Prop) (Kp:World->World->Prop) (S Sp:List α->Prop) (w:As):Prop:=
 ∀(l:Nat) (J Jx:List α->World->Prop) (W:As),Below w.heap.size w W->AbidesFrom W.heap.size J->AbidesFrom W.heap.size Jx->
  (∀pre x W1,J pre W1->M pre x W1->YieldAt F (n-1) P l (bt x) W1 fun e W'=>
   (e= .returned (.bool true)/\J (pre++ [x]) W'/\Kp W1 W')\/(e= .returned (.bool false)/\Jx (pre++ [x]) W'))->
  J [] W->
  CallsIn F n P g (#[.func (.yield l) #[] #[]]++lb) W fun e W'=>(∃v,e= .returned v)/\((∃xs,S xs/\J xs W')\/(∃pre,Sp pre/\Jx pre W'))
structure yD {α:Type} (I:List α->World->Prop) (b:Nat) (r:Loop) (pre:List α) (W:As):Prop where
 own:I pre W
 rcd:W.heap[b+1]? =some (.loop r)
 dfr:W.heap[b]? =some (.deferred (some []))
theorem yD.abides {α:Type} {I:List α->World->Prop} {b:Nat} {r:Loop} (E:OwnFrom b I) {B:Nat} (G:b<=B):AbidesFrom B (yD I b r):=fun s X Y row A C D=>
 ⟨E s X Y row A.own C fun q e=>by obtain ⟨H,o,J,L⟩:=D q e;exact ⟨Vd G H,o,J,Obj.not_cells_of_walk L⟩,(grownBy_keeps C (fun q e=>(D q e).2) A.rcd rfl).trans A.rcd,(grownBy_keeps C (fun q e=>(D q e).2) A.dfr rfl).trans A.dfr⟩
theorem yD.turn {α:Type} {I:List α->World->Prop} {b:Nat} {r:Loop} {A:List α} {W:As} (C:OwnFrom b I) (h:yD I b r A W) (r':Loop):yD I b r' A (W.putObj (b+1) (.loop r')):=
 ⟨C.putObj _ h.own oA h.rcd rfl,World.putObj_heap_same (VT.1 h.rcd).1,(World.putObj_heap_other oA).trans h.dfr⟩
theorem mf {α:Type} {g:Operand} {ps:Array Tmp} {assign body:Code} {Q:Exit->Act->World->Prop} {a:Act}
  (B0:F.round=none) (h1:1<=n) {gf:Nat} {lb:AS} (hg:a.eval g= .func (.func gf) #[] lb) (B1:F.fn gf) (eg:∀args w,(callFunc gf args).run P w= .ok (.enter gf args) w)
  {bt:α->AS} {M:List α->α->World->Prop} {T:World->World->Prop} {S Sp:List α->Prop} {w0:As} (A9:wP F (n-1) P gf lb bt M T S Sp w0)
  (hM:OwnFrom w.heap.size (fun (p:List α×α) W=>M p.1 p.2 W))
  (A0:∀{A B C:As},T A B->T B C->T A C) (A1:∀(W:As) (l:Nat) (o o':Obj),w.heap.size<=l->W.heap[l]? =some o->o.isCells=false->o.isWalk=false->T W (W.putObj l o')) (A2:Below w0.heap.size w0 w) (B2:∀x,(bt x).size=ps.size)
  (I:List α->World->Prop) (Z:Code->List α->World->Prop) (U:OwnFrom w.heap.size I) (N:∀c,OwnFrom w.heap.size (Z c)) (h0:I [] w) (a₁:α->Act)
  (A5:∀(l:Nat) (x:α) (W:As) (K:Act->World->Prop),K (a₁ x) W->
   assign.wpIn (F.inRound l) (n-1-1) P (Exit.then K (fun _ _ _=>False)) {tmps:=(ps.zip (bt x)).foldl (fun t (p,v)=>t.setIfInBounds p v) a.tmps,defers:=[]} W)
  (A6:∀(l:Nat) (E:List α) (x:α) (W:As),I E W->M E x W->body.wpIn (F.inRound l) (n-1-1) P (ownPostG w.heap.size T I Z (E++ [x]) W) (a₁ x) W)
  (A7:∀(D:Nat) (f:List α) (W:As),w.heap.size<=D->S f->I f W->W.heap[D]? =some (.deferred (some []))->Q .normal {a with defers:={target:= .collected D,args:= #[]}::a.defers} W)
  (A8:∀(D:Nat) (c:Code) (E:List α) (W:As),w.heap.size<=D->Sp E->Z c E W->W.heap[D]? =some (.deferred (some []))->c.wpIn F n P Q {a with defers:={target:= .collected D,args:= #[]}::a.defers} W):
  (Code.rangeFunc g ps assign body).wpIn F n P Q a w:=by
 refine wpIn_rangeFunc fun fn B3=> ?_;rw [B0];obtain ⟨R,L⟩:∃R:LoopState->Option Code->Loop,∀st pe,R st pe={state:=st,pending:=pe,fn,tmps:=a.tmps,params:=ps,assign,body,defers:=w.heap.size}:=⟨_,fun _ _=>rfl⟩;have start:yD I w.heap.size (R .ready none) [] ((w.alloc (.deferred (some []))).alloc (.loop (R .ready none))):=
  ⟨U.alloc _ (U.alloc _ h0),by have:=World.alloc_heap_new (w.alloc (.deferred (some []))) (.loop (R .ready none));rwa [Wm] at this,(Vp _ _ _ skA).trans (World.alloc_heap_new w _)⟩
 have B4:Below w0.heap.size w0 ((w.alloc (.deferred (some []))).alloc (.loop (R .ready none))):=A2.trans ((((VW _ w).alloc (VU _) _).alloc skA _).mono A2.size);have A3:w.heap.size<=((w.alloc (.deferred (some []))).alloc (.loop (R .ready none))).heap.size:=soA;refine ⟨w.heap.size+1,[{target:= .collected w.heap.size,args:= #[]}],((w.alloc (.deferred (some []))).alloc (.loop (R .ready none))),{target:= .fn (.func gf) lb,args:= #[.func (.yield (w.heap.size+1)) #[] #[]]},(w.alloc (.deferred (some []))).alloc (.loop (R .ready none)),gf,
  #[.func (.yield (w.heap.size+1)) #[] #[]]++lb,((w.alloc (.deferred (some []))).alloc (.loop (R .ready none))),by rw [L];exact run_enterLoop_outer _ _ _ _ _,by simp only [resolve,hg];simp [go_sem],fun f' A4=>by simp [Target.leads] at A4;subst A4;exact B1,by simp [invoke,go_sem,eg],fun _=>h1,?_⟩
 have B5:∀E x W,yD I w.heap.size (R .ready none) E W->M E x W->YieldAt F (n-1-1) P (w.heap.size+1) (bt x) W fun e m=>
   (e= .returned (.bool true)/\yD I w.heap.size (R .ready none) (E++ [x]) m/\T W m)\/(e= .returned (.bool false)/\∃c,yD (Z c) w.heap.size (R .done (some c)) (E++ [x]) m):=by
  intro E x W h hm;have hy:=run_yield (P:=P) (args:=bt x) h.rcd (by rw [L];exact B2 x);rw [L] at hy;refine ⟨fn,_,assign,body,hy,roundIn_of_wpIn B3 (A5 _ x W _ ⟨_,run_beginRound h.rcd (by rw [L]),?_⟩)⟩;have q:=h.turn U {R .ready none with state:= .busy};have m2:M E x (W.putObj (w.heap.size+1) (.loop {R .ready none with state:= .busy})):=hM.putObj (s:=(E,x)) _ hm oA h.rcd rfl;have k2:=A1 W _ _ (.loop {R .ready none with state:= .busy}) (YP w.heap.size) h.rcd rfl rfl;refine wpIn_mono (A6 _ E x _ q.own m2) ?_;have O:∀(J:Option Code) (G:As),KeepsFrom w.heap.size (W.putObj (w.heap.size+1) (.loop {R .ready none with state:= .busy})) G->∀(b:List α->World->Prop),OwnFrom w.heap.size b->b (E++ [x]) G->
    (Instr.endRound (w.heap.size+1) J).run P G= .ok (.bool J.isNone) (G.putObj (w.heap.size+1) (.loop (R (if J.isNone then .ready else .done) J)))/\G.heap[w.heap.size+1]? =some (.loop {R .ready none with state:= .busy})/\
    yD b w.heap.size (R (if J.isNone then .ready else .done) J) (E++ [x]) (G.putObj (w.heap.size+1) (.loop (R (if J.isNone then .ready else .done) J))):=fun J G hk b B6 hi=>by
   have j:yD b w.heap.size {R .ready none with state:= .busy} (E++ [x]) G:=⟨hi,hk.same _ _ oA q.rcd rfl,hk.same _ _ (VU _) q.dfr rfl⟩;have C1:=j.rcd;have:=run_endRound (P:=P) J j.rcd;refine ⟨?_,j.rcd,j.turn B6 _⟩;rw [L] at this⊢;exact this
  rintro e a3 G H;cases e with
  |normal=>
   obtain ⟨B7,BY,B9⟩:=H;obtain ⟨y,CK,h4⟩:=O none G B7 I U B9;exact ⟨_,_,y,.inl ⟨rfl,h4,A0 (A0 k2 BY) (A1 _ _ _ _ oA CK rfl rfl)⟩⟩
  |ret=>exact ⟨_,_,(O (some .ret) G H.1 _ (N _) H.2).1,.inr ⟨rfl,_,(O (some .ret) G H.1 _ (N _) H.2).2.2⟩⟩
  |exit id=>exact ⟨_,_,(O (some (.exit id)) G H.1 _ (N _) H.2).1,.inr ⟨rfl,_,(O (some (.exit id)) G H.1 _ (N _) H.2).2.2⟩⟩
  |goto t=>exact ⟨_,_,(O (some (.goto t)) G H.1 _ (N _) H.2).1,.inr ⟨rfl,_,(O (some (.goto t)) G H.1 _ (N _) H.2).2.2⟩⟩
  |panic ch=>exact H.elim
  |outgrown=>exact H.elim
 refine (A9 (w.heap.size+1) (yD I w.heap.size (R .ready none)) (fun E W=>∃c,yD (Z c) w.heap.size (R .done (some c)) E W) _ B4 (yD.abides U A3) (fun s X Y row hs CW y=>by obtain ⟨c,hc⟩:=hs;exact ⟨c,yD.abides (N c) A3 s X Y row hc CW y⟩) B5 start).mono ?_;rintro e W2 ⟨⟨v,rfl⟩,(⟨f,hS,h⟩|⟨E,C0,c,h⟩)⟩
 .refine ⟨none,_,by have:=run_endLoop (P:=P) h.rcd (by rw [L];simp);rw [L] at this;exact this,?_⟩;exact A7 _ f _ (VU _) hS (U.putObj _ h.own oA h.rcd rfl) ((World.putObj_heap_other oA).trans h.dfr)
 .refine ⟨some c,_,by have:=run_endLoop (P:=P) h.rcd (by rw [L];simp);rw [L] at this;exact this,?_⟩;exact A8 _ c E _ (VU _) C0 ((N c).putObj _ h.own oA h.rcd rfl) ((World.putObj_heap_other oA).trans h.dfr)
end
section
open Go.RowKit
def uh (o:Oper):Bool:=match o.op with
 | .defer _=>false
 |_=>true
section
variable {n l:Nat} {P:Program} {ops:Array Oper} {Q:Exit->Act->World->Prop} {md:Region.Mode}
theorem sq {o:Oper} {a:Act} {w:As} {K:Act->World->Prop} (A:uh o=true) (h:o.wp P a w K Q):o.wpIn (Fence.wide.inRound l) n P a w K Q:=by
 have C:o.semAt (Fence.wide.inRound l).round a.eval=execOp a.eval o:=Oper.semAt_eq _ _ _ (fun c e=>by simp [uh,e] at A);refine ⟨fun _ _=>trivial,?_⟩;rw [C];unfold Oper.wp at h;generalize (execOp a.eval o).run P w=r at*;cases r with
 |ok x w'=>
  cases x<;>simp only [Oper.upon] at h<;>simp only [Oper.uponIn]
  case value=>exact h
  case skip=>exact h
  case defer=>exact h
  case enter f args=>exact ⟨fun e=>by simp [Fence.wide] at e,(YD (n:=n-1)).2 h⟩
  case row row args=>exact ⟨fun e=>by simp [Fence.wide] at e,fun c cs _=>let ⟨v,w',r,s⟩:=h c cs;⟨v,w',r,(stepsIn_wide (P:=P)).2 s⟩⟩
 |halt x w'=>cases x<;>simp only [Oper.upon] at h<;>simp only [Oper.uponIn]<;>exact h
end
end
section
open Go.RowKit Go.Shelf
attribute [local go_sem] Oper.semAt_some
theorem JS (w:As) (B d:Nat) (R:jo) (h:lL w B d R):Calls prog 108 #[.pointer (some ⟨R.l,0,none⟩)] w fun e w'=>e= .returned (.int .i64 (R.ls.length:Int))/\w'=w:=by
 have A:=h.blk.rule;go_enter func108,ntmps108;go_wp2_with fail;go_ret;exact ⟨rfl,rfl⟩
theorem GA (w:As) (l:Nat):Calls prog 49 #[.pointer (some ⟨l,0,none⟩)] w fun e w'=>e= .returned (.func (.func 107) #[] #[.pointer (some ⟨w.heap.size,0,none⟩)])/\w'=w.alloc (.cells #[.pointer (some ⟨l,0,none⟩)] 86):=by
 have A:∀(fn:Fn) (first cap:AS) (w:As),(Instr.makeFunc fn first cap).run prog w= .ok (.func fn first cap) w:=fun _ _ _ _=>rfl;go_enter func49,ntmps49;go_wp2_with fail;go_ret;exact ⟨rfl,rfl⟩
def IE (ls:List Le) (pre:List (Nat×Value)) (x:Nat×Value) (W:As):Prop:=
 x.1=pre.length/\∃(h:x.1<ls.length) (a:Lt) (c:Nat),x.2= .slice a ls[x.1].length c/\aj W a ls[x.1]/\ls[x.1].length<=c
def yg (x:Nat×Value):AS:= #[.int .i64 (x.1:Int),x.2]
theorem rM {W A:As} (h:Below W.heap.size W A):W.grownBy A none:=⟨h.os,h.tape,h.output,h.size,fun k C _=>h.block k C⟩
theorem au.putObj {S:Nat->Prop} {W:As} {l:Nat} (A:Obj) (C:∀x,S x->x≠l):au S W (W.putObj l A):=⟨(grownBy_putObj' W l A).size,fun x hx=>World.putObj_heap_other (C x hx)⟩
theorem Ed (n:Nat) (h1:1<=n) (B d:Nat) (R:jo) (bx:Nat) (w:As) (h:lL w B d R) (O:w.cell? ⟨bx,0,none⟩=some (.pointer (some ⟨R.l,0,none⟩))):
  wP Fence.wide n prog 107 #[.pointer (some ⟨bx,0,none⟩)] yg (IE R.ls) (au fun x=>dP R x\/x=bx) (fun xs=>xs.length=R.ls.length) (fun _=>True) w:=fun l J Jx W U hJ _ hY h0=>by
 have b:=Vx w _ O;have A5:=h.cnt;have q:∀E,au (fun x=>dP R x\/x=bx) w E->lL E B d R:=fun E I=>h.keep fun x hx=>I.2 x (.inl hx);have j:∀x,(dP R x\/x=bx)->x<w.heap.size:=fun x hx=>hx.elim (fun hx=>(h.lt hx).2) (fun hx=>hx▸b);have s:∀E,au (fun x=>dP R x\/x=bx) w E->E.cell? ⟨bx,0,none⟩=some (.pointer (some ⟨R.l,0,none⟩)):=fun E I=>(VE (a:=⟨bx,0,none⟩) (I.2 bx (.inr rfl))).trans O;refine callsIn_of_wp func107 rfl trivial ?_ rfl;simp only [ntmps107,List.size_toArray,VC,Xz,Nat.reduceAdd,Nat.reduceSub,Array.replicate_succ,Array.replicate_zero,List.push_toArray,List.append_toArray,Wl,Xf];have A1:W.cell? ⟨bx,0,none⟩=some (.pointer (some ⟨R.l,0,none⟩)):=(U.cell (p:=⟨bx,0,none⟩) b).trans O;have Z:=JS W B d R (h.old U)
 gi_wp2_with (refine ⟨trivial,?_⟩;gi_at_call 108;refine (YD.2 Z).mono ?_;rintro e w' ⟨rfl,rfl⟩);clear Z A1
 gi_loopw [6] (fun p wr=>∃(k:Nat) (D:List (Nat×Value)),k<=R.ls.length/\p= .int .i64 k/\D.length=k/\J D wr/\au (fun x=>dP R x\/x=bx) w wr) (fun p _=>R.ls.length-(intOf p).toNat)
 case atStart=>exact ⟨0,[],Vt _,rfl,rfl,h0,au.below U j⟩
 case round=>
  obtain ⟨k,D,I,rfl,N,S,G⟩:=hrel;by_cases H:k<R.ls.length
  .have hp:wr.cell? ⟨bx,0,none⟩=some (.pointer (some ⟨R.l,0,none⟩)):=s _ G;have L:=q _ G;have hb:=L.blk.rule;obtain ⟨A,C,m,t⟩:=L.rows.2.2 k H;have c:k<R.vs.length:=(by rw [L.rows.2.1];exact H);obtain ⟨rb,ro,o,Y⟩:=L.rows.1.row k c;have A4:wr.cell? ⟨rb,ro+k,none⟩=some (.slice A R.ls[k].length C):=(by rw [Y,<-m,VJ c]);rw [o] at hb;have A6:R.ls[k].length<=65536:=h.lens _ (VQ H);have HK:=Hd (show R.ls[k].length=R.ls[k].length from rfl);clear Y m o
   gi_wp2_with (refine ⟨trivial,?_⟩;gi_at_call 48;refine (YD.2 (jU A _ C R.ls[k] wr t.row rfl oA)).mono ?_;rintro e w1 ⟨a',c',rfl,M,T⟩);have f:J D w1:=hJ D wr w1 none S (rM T) (fun r e=>by cases e);have g:IE R.ls D (k,.slice a' R.ls[k].length c') w1:=⟨N.symm,H,a',c',rfl,M.row,M.le⟩;obtain ⟨fn,tmps,assign,body,X,hR⟩:=hY D (k,.slice a' R.ls[k].length c') w1 f g;have y:au (fun x=>dP R x\/x=bx) w w1:=G.trans (au.below T fun x hx=>VP (j x hx) G.1);clear g M T f S;unfold yg at X;dsimp only at X
   gi_wp2;rw [X,Oper.uponIn_round];refine ⟨fun _=>h1,hR.mono ?_⟩;rintro e W3 (⟨rfl,A2,A3⟩|⟨rfl,A0⟩)
   .gi_wp2;go_roundw
    case rel=>exact ⟨k+1,D++ [(k,.slice a' R.ls[k].length c')],oA,gnA,by simp [N],A2,y.trans A3⟩
    case measure=>simp [intOf];omega
   .gi_wp2;refine YO (WZ rfl _ _ _) rfl ?_;exact ⟨⟨_,rfl⟩,.inr ⟨_,trivial,A0⟩⟩
  .obtain rfl:k=R.ls.length:=oA
   gi_wp2;go_end0;exact ⟨⟨_,rfl⟩,.inl ⟨_,N,S⟩⟩
end
section
open Go Go.RowKit
variable {F:Fence} {n:Nat} {P:Program} {w:As}
def JD (Q:Exit->Act->World->Prop):Exit->Act->World->Prop
 | .panic _,_,_=>False
 |e,a,w=>Q e a w
theorem vP {Q:Exit->Act->World->Prop}:∀(e:Exit) (a:Act) (w:As),JD Q e a w->Q e a w:=fun e a w h=>by
 cases e<;>first|exact h|exact h.elim
end
end Go.Proofs.YtioigihakjlopaaGreat
