import Derived.Test.YtioigihakjlopaaGreatVF27
import Derived.Test.YtioigihakjlopaaGreatVF28
import Derived.Test.YtioigihakjlopaaGreatVF29
import Derived.DeepKeys4
namespace Go.Proofs.YtioigihakjlopaaGreat
open Go.Proofs.Tryz
set_option linter.unusedVariables false
set_option linter.unusedSimpArgs false
set_option maxHeartbeats 16000000
set_option maxRecDepth 100000
section
open Go.RowKit Go.Maps
theorem MI (w:World) (B:Nat) (r:di) (n:Int) (pa:Option Addr) (pn pc:Nat) (plan:eA) (h:db w B r) (hB:B<=w.heap.size) (hn:n<=9223372036854775807) (hp:aw w pa (plan.flatMap eu)) (hpn:plan.length=pn) (hpm:pn*24<=140737488355328) (hpf:plan≠ []->∀ad,pa=some ad->ad.block≠r.d):
  Calls prog 37 #[.pointer (some ⟨r.d,0,none⟩),.int .i64 n,.slice pa pn pc] w fun e w'=>e= .returned (.int .i64 (GG r.p n plan).2)/\∃r',r'.p=(GG r.p n plan).1/\de B w r w' r':=by
 have HP:=Hd hpn;clear hpn;have hb:=h.blk.rule;have hfr:=h.blk.free;unfold cJ at hb;cases hdn:r.down with
 |true=>
  rw [hdn] at hb;have HE:=Hd (show GG r.p n plan=(r.p,5) by simp [GG,di.p,hdn]);go_enter func37,ntmps37;go_wp2_with fail;go_ret;exact ⟨by rw [HE.out];rfl,r,by rw [HE.out],de.refl h⟩
 |false=>
  rw [hdn] at hb;by_cases h0:n<0
  .have HE:=Hd (show GG r.p n plan=(r.p,2) by simp [GG,di.p,hdn,h0]);go_enter func37,ntmps37;go_wp2_with fail;go_ret;exact ⟨by rw [HE.out];rfl,r,by rw [HE.out],de.refl h⟩
  .have HE:=Hd (show GG r.p n plan=({r.p with armed:=true,left:=n,plan:=plan},0) by simp [GG,di.p,hdn,h0]);have hblk2:Blk ((w.setCell ⟨r.d,2,none⟩ (.bool true)).setCell ⟨r.d,3,none⟩ (.int .i64 n)) r.d (cJ {r with armed:=true,left:=n}) 49:=by
    have:=((h.blk.set 2 (.bool true)).set 3 (.int .i64 n));unfold cJ;exact this
   have hk2:∀x,x≠r.d->((w.setCell ⟨r.d,2,none⟩ (.bool true)).setCell ⟨r.d,3,none⟩ (.int .i64 n)).heap[x]? =w.heap[x]? :=fun x hx=>by
    rw [VU _ _ _ _ hx,VU _ _ _ _ hx]
   have h2:=h.head {r with armed:=true,left:=n} rfl rfl rfl rfl rfl rfl rfl ⟨by show 0<=n;omega,hn⟩ hblk2 hk2;have hp2:aw ((w.setCell ⟨r.d,2,none⟩ (.bool true)).setCell ⟨r.d,3,none⟩ (.int .i64 n)) pa (plan.flatMap eu):=by
    by_cases hne:plan=[]
    .subst hne;exact aw.nil _ _
    .exact hp.keepAt fun x hx=>hk2 _ (hpf hne x hx)
   have hs2:de B w r _ {r with armed:=true,left:=n}:=⟨aJ.setCell (aJ.setCell (aJ.refl _ _) (x:=⟨r.d,2,none⟩) (.inl (.inl rfl)) _) (x:=⟨r.d,3,none⟩) (.inl (.inl rfl)) _,h2,fun x hx=> .inl hx,rfl⟩;have HS2:=Hd hs2;clear hs2 hdn;go_enter func37,ntmps37;go_wp2_with fail;refine (vU pa pn pc plan _ hp2 HP.out hpm).mono ?_;rintro e w1 ⟨a',c',rfl,hown,hb1⟩;have h1:=h2.old hb1;have c0:=h1.blk.rule;have c1:=h1.blk.free;unfold cJ at c0;clear hb hfr;go_wp2_with fail;go_ret;have hblk:Blk (w1.setCell ⟨r.d,4,none⟩ (.slice a' pn c')) r.d (cJ {r with armed:=true,left:=n,pa:=a',pc:=c',plan:=plan}) 49:=by
    have:=h1.blk.set 4 (.slice a' pn c');unfold cJ;dsimp only;rw [HP.out];exact this
   have hk:∀x,x≠r.d->(w1.setCell ⟨r.d,4,none⟩ (.slice a' pn c')).heap[x]? =w1.heap[x]? :=fun x hx=>VU _ _ _ _ hx;have ne:∀{b:Nat} {cs:Array Value} {t:TypeId},Blk w1 b cs t->t≠49->b≠r.d:=fun hb' ht=>Blk.ne hb' h1.blk ht;refine ⟨by rw [HE.out];rfl,{r with armed:=true,left:=n,pa:=a',pc:=c',plan:=plan},by rw [HE.out];rfl,HS2.out.trans ⟨?_,?_,?_,rfl⟩⟩
   .exact (aJ.of_below hb1).setCell (x:=⟨r.d,4,none⟩) (.inl (.inl rfl)) _
   .refine ⟨h.ged,hblk,h1.row.keepAt fun x hx=>hk _ ?_,fun f hf=>(h1.files f hf).keepAt fun x hx=>hk _ ?_,?_,⟨h.ok.names,h.ok.named,h.ok.sure,h.ok.size,h.ok.count,⟨by show 0<=n;omega,hn⟩⟩⟩
    .obtain ⟨_,_,_,hc⟩:=h1.row.block_lt hx;exact ne hc dcA
    .obtain ⟨_,_,_,hc⟩:=(h1.files f hf).block_lt hx;exact ne hc dcA
    .show Own _ B 130 2 a' plan.length c' (plan.flatMap eu);rw [HP.out];exact (hown.lower (At hB HS2.out.turn.size)).keepAt fun x hx=>hk _ (by
      obtain ⟨_,_,cur,hcur⟩:=hown.block_lt hx;exact ne hcur dcA)
   .rintro x (hx|hx|hx|⟨ad,ha,rfl⟩)
    .exact .inl (.inl hx)
    .exact .inl (.inr (.inl hx))
    .exact .inl (.inr (.inr (.inl hx)))
    .exact .inr (hown.block_lt ha).1
theorem BX {r:di} {nm:bz} {f:cQ} (hd:r.down=false) (hf:eW r.p nm=some f.p) (g:dx->aM×Int):lH r.p nm g=g f.p:=by
 unfold lH;rw [if_neg (by simp [di.p,hd]),hf]
theorem Bp (w:World) (B:Nat) (r:di) (nm:bz) (h:db w B r) (hB:B<=w.heap.size):
  Calls prog 117 #[.pointer (some ⟨r.d,0,none⟩),.string nm] w fun e w'=>e= .returned (.int .i64 (eL r.p nm).2)/\∃r',r'.p=(eL r.p nm).1/\de B w r w' r':=by
 have hat:=sH w B r nm h;have hcnt:r.fs.length<=64:=(by have:=h.ok.count;simpa [di.p] using this);rcases oL r nm with ⟨hd,h1,h2⟩|⟨hd,h0,h1,h2,h3⟩|⟨k,hk,hd,h0,h1,h2,h3⟩
 .rw [h1,h2] at hat;have HR:=Hd (show eL r.p nm=(r.p,5) by unfold eL lH;rw [if_pos (show r.p.down=true from hd)]);clear h1 h2 hd;go_enter func117,ntmps117;go_wp2_with fail;refine hat.mono ?_;rintro e w' ⟨rfl,rfl⟩;go_wp2_with fail;go_ret;exact ⟨by rw [HR.out];first|rfl|simp,r,by rw [HR.out],de.refl h⟩
 .rw [h1,h2] at hat;have HR:=Hd (show eL r.p nm=(r.p,4) by unfold eL lH;rw [if_neg (by simp [di.p,hd]),h3]);clear h0 h1 h2 h3 hd;go_enter func117,ntmps117;go_wp2_with fail;refine hat.mono ?_;rintro e w' ⟨rfl,rfl⟩;go_wp2_with fail;go_ret;exact ⟨by rw [HR.out];first|rfl|simp,r,by rw [HR.out],de.refl h⟩
 .rw [h1,h2] at hat;have HR:=Hd (show eL r.p nm=if (dz r.p).2=0 then (jQ (dz r.p).1 nm fun f=>{f with sure:=f.b.length},0) else dz r.p by unfold eL;rw [BX hd h3]);have hgo:=uk w B r h hB;have HD:=Hd hd;have HN:=Hd h0;clear h0 h1 h2 h3 hd;go_enter func117,ntmps117;go_wp2_with fail;refine hat.mono ?_;rintro e w' ⟨rfl,rfl⟩;go_wp2_with fail;refine hgo.mono ?_;rintro e w1 ⟨rfl,hr⟩;obtain ⟨r1,hp1,hs1,hz1⟩:=hr HD.out;clear hr;have HP1:=Hd hp1;clear hp1;by_cases hv:(dz r.p).2=0
  .obtain ⟨e1,e2,e3⟩:=hz1 hv;rw [hv];clear hz1;have HV:=Hd hv;clear hv;have ha:=hs1.at';have hk1:k<r1.fs.length:=(by rw [e1];exact hk);obtain ⟨g,hg,c0,c1,c2⟩:=ha.elem k hk1;have HE1:=Hd e1;have hbd:w1.cell? ⟨r.d,0,none⟩=some (.slice (some ⟨g,0,none⟩) r.fs.length r1.lc):=by
    have:=ha.blk.rule 0;unfold cJ at this;rw [hs1.d,hg,e1] at this;exact this
   have hfi:=ha.files _ (VE hk1);have hsz:r1.fs[k].b.length<=1048576:=ha.ok.size r1.fs[k].p (VY.2 ⟨_,VE hk1,rfl⟩);have hnm1:r1.fs[k].nm=nm:=(by rw [<-HN.out];simp only [e1]);have hpe:di.p {r1 with fs:=r1.fs.set k {r1.fs[k] with sure:=r1.fs[k].b.length}}=jQ r1.p nm (fun q=>{q with sure:=q.b.length}):=by
    rw [di.p_set hk1 ha.nd (fun q=>{q with sure:=q.b.length}) _ rfl,hnm1]
   have HPE:=Hd hpe;have HON:=Hd (ha.onlySure hk1 hg r1.fs[k].b.length (by
    rw [hpe];refine ha.ok.upd _ _ (fun _ _=>rfl) (fun q hq hqn=>Lt _) (fun q hq hqn=>ha.ok.size q hq)))
   clear hpe hnm1 e1 e2 e3 c0;obtain ⟨_,_,cur,hcur⟩:=ha.row.block_lt hg;have hfr:=hcur.free;have HG:=Hd hg;clear hg;obtain ⟨f,hf⟩:=Le (r1.fs[k]);rw [<-hf] at c1 c2 hfi hsz;have c2':w1.drew.cell? ⟨g,k*3+2,none⟩=some (.int .i64 (f.sure:Int)):=c2;have HF:=Hd hf;clear hf;go_wp2_with fail;have l0:∀W,Old w1.drew W->W.cell? ⟨r.d,0,none⟩=some (.slice (some ⟨g,0,none⟩) r.fs.length r1.lc):=fun W hW=>((hW:Below w1.drew.heap.size _ W).cell (p:=⟨r.d,0,none⟩) (VV w1 _ hbd)).trans hbd;have l1:∀W,Old w1.drew W->W.cell? ⟨g,k*3+1,none⟩=some (.slice f.a f.b.length f.c):=fun W hW=>((hW:Below w1.drew.heap.size _ W).cell (p:=⟨g,k*3+1,none⟩) (VV w1 _ c1)).trans c1;have f0:∀i,w1.drew.frozen? ⟨g,i,none⟩=false:=hfr;refine aj true Old Old.refl Old.trans (.step 0 (.step 1 (.step 2 (.step 3 (.step 4 (.step 5 (.step 6 (.step 7 (.step 8 (.step 9 (.step 10 (.step 11 (.step 12 (.step 13 (.step 14 (.step 15 (.step 16 .done))))))))))))))))) krA krA cdA ?_
   repeat (first|refine tsA ?_|refine tqA ?_)
   refine az rfl rfl rfA (fun K hK=> ?_);go_wp2_with fail;refine ap ?_;go_wp2_with fail;go_ret;have hpe2:di.p {r1 with fs:=r1.fs.set k {f with sure:=f.b.length}}=jQ r1.p nm (fun q=>{q with sure:=q.b.length}):=by
    have:=HPE.out;rw [<-HF.out] at this;exact this
   have hL:de B w1 r1 (w1.setCell ⟨g,k*3+2,none⟩ (.int .i64 (f.b.length:Int))) {r1 with fs:=r1.fs.set k {f with sure:=f.b.length}}:=by
    have:=HON.out;rw [<-HF.out] at this;exact this
   refine ⟨by rw [HR.out,if_pos HV.out];first|rfl|simp,{r1 with fs:=r1.fs.set k {f with sure:=f.b.length}},?_,hs1.trans ⟨hL.turn.drewN 1,hL.at'.keep fun _ _=>rfl,hL.foot',hL.d⟩⟩;rw [HR.out,if_pos HV.out,hpe2,HP1.out]
  .have t0:decide ((dz r.p).2=0)=false:=(by simpa using hv);have HV:=Hd hv;clear hz1;obtain ⟨v,hve⟩:=Le ((dz r.p).2);rw [<-hve] at hv⊢;have HVE:=Hd hve;clear hve t0;go_wp2_with fail;go_ret;refine ⟨?_,r1,?_,hs1⟩
   .rw [HR.out,if_neg HV.out,<-HVE.out];first|rfl|simp
   .rw [HR.out,if_neg HV.out,HP1.out]
theorem xR (w:World) (B:Nat) (r:di) (nm:bz) (n:Int) (h:db w B r) (hB:B<=w.heap.size):
  Calls prog 44 #[.pointer (some ⟨r.d,0,none⟩),.string nm,.int .i64 n] w fun e w'=>e= .returned (.int .i64 (jh r.p nm n).2)/\∃r',r'.p=(jh r.p nm n).1/\de B w r w' r':=by
 have hat:=sH w B r nm h;have hb:=h.blk.rule;unfold cJ at hb;have hcnt:r.fs.length<=64:=(by have:=h.ok.count;simpa [di.p] using this);rcases oL r nm with ⟨hd,h1,h2⟩|⟨hd,h0,h1,h2,h3⟩|⟨k,hk,hd,h0,h1,h2,h3⟩
 .rw [h1,h2] at hat;have HR:=Hd (show jh r.p nm n=(r.p,5) by unfold jh lH;rw [if_pos (show r.p.down=true from hd)]);clear h1 h2 hd;go_enter func44,ntmps44;go_wp2_with fail;refine hat.mono ?_;rintro e w' ⟨rfl,rfl⟩;go_wp2_with fail;go_ret;exact ⟨by rw [HR.out];first|rfl|simp,r,by rw [HR.out],de.refl h⟩
 .rw [h1,h2] at hat;have HR:=Hd (show jh r.p nm n=(r.p,4) by unfold jh lH;rw [if_neg (by simp [di.p,hd]),h3]);clear h0 h1 h2 h3 hd;go_enter func44,ntmps44;go_wp2_with fail;refine hat.mono ?_;rintro e w' ⟨rfl,rfl⟩;go_wp2_with fail;go_ret;exact ⟨by rw [HR.out];first|rfl|simp,r,by rw [HR.out],de.refl h⟩
 .rw [h1,h2] at hat;obtain ⟨g,hg,c0,c1,c2⟩:=h.elem k hk;have hfo:=h.files _ (VE hk);have hsz:r.fs[k].b.length<=1048576:=h.ok.size r.fs[k].p (VY.2 ⟨_,VE hk,rfl⟩);have HR:=Hd (show jh r.p nm n=if n<0\/(r.fs[k].b.length:Int)<n then (r.p,2) else (jQ r.p nm fun f=>{f with b:=f.b.take n.toNat,sure:=n.toNat},0) by unfold jh;rw [BX hd h3];rfl);obtain ⟨f,hf⟩:=Le (r.fs[k]);rw [<-hf] at c0 c1 c2 hfo hsz h0 HR;have HF:=Hd hf;have HN:=Hd h0;have HD:=Hd hd;have HG:=Hd hg;rw [hg] at hb;clear h0 h1 h2 h3 hd hf hg c0;by_cases hn0:n<0
  .have HR2:=Hd (show jh r.p nm n=(r.p,2) by rw [HR.out];exact if_pos (.inl hn0));go_enter func44,ntmps44;go_wp2_with fail;refine hat.mono ?_;rintro e w' ⟨rfl,rfl⟩;go_wp2_with fail;go_ret;exact ⟨by rw [HR2.out];first|rfl|simp,r,by rw [HR2.out],de.refl h⟩
  .by_cases hn1:(f.b.length:Int)<n
   .have HR2:=Hd (show jh r.p nm n=(r.p,2) by rw [HR.out];exact if_pos (.inr hn1));go_enter func44,ntmps44;go_wp2_with fail;refine hat.mono ?_;rintro e w' ⟨rfl,rfl⟩;go_wp2_with fail;go_ret;exact ⟨by rw [HR2.out];first|rfl|simp,r,by rw [HR2.out],de.refl h⟩
   .obtain ⟨n8,rfl⟩:∃n8:Nat,n=(n8:Int):=⟨n.toNat,oA⟩;have hn8l:n8<=f.b.length:=oA;have HR2:=Hd (show jh r.p nm (n8:Int)=(jQ r.p nm fun f=>{f with b:=f.b.take n8,sure:=n8},0) by rw [HR.out];exact if_neg oA);clear hn0 HR;have hcl:f.b.length<=f.c:=hfo.le;go_enter func44,ntmps44;go_wp2_with fail;refine hat.mono ?_;rintro e w' ⟨rfl,rfl⟩;have b0:w'.cell? ⟨r.d,0,none⟩=some (.slice (some ⟨g,0,none⟩) r.fs.length r.lc):=hb 0;have hcut:=re (P:=prog) (t:=22) underlying22 krA f.a f.b.length f.c n8 oA;clear hb;go_wp2_with fail;have hle:∀W,Old w'.drew W->∀b i (v:Value),w'.cell? ⟨b,i,none⟩=some v->W.cell? ⟨b,i,none⟩=some v:=fun W hW b i v hv=>((hW:Below w'.drew.heap.size _ W).cell (p:=⟨b,i,none⟩) (VV w' _ hv)).trans hv;have l0:∀W,Old w'.drew W->W.cell? ⟨r.d,0,none⟩=some (.slice (some ⟨g,0,none⟩) r.fs.length r.lc):=fun W hW=>hle W hW _ 0 _ b0;have l1:∀W,Old w'.drew W->W.cell? ⟨g,k*3+1,none⟩=some (.slice f.a f.b.length f.c):=fun W hW=>hle W hW _ (k*3+1) _ c1;clear hle;refine aj true Old Old.refl Old.trans (.step 0 (.step 1 (.step 2 (.step 3 (.step 4 (.step 5 (.step 6 (.step 7 (.step 8 (.step 9 (.step 10 (.step 11 (.step 12 (.step 13 (.step 14 (.step 15 (.step 16 (.step 17 (.step 18 .done))))))))))))))))))) krA krA cdA ?_
    repeat (first|refine tsA ?_|refine tqA ?_)
    have hbt:ah w'.drew f.a (f.b.take n8):=by
     have:=(aw.take n8 hfo.row);rw [<-WE] at this;exact this
    refine an rfl rfl rfA (fun K hK=> ?_);go_wp2_with fail;refine (jD f.a n8 f.c (f.b.take n8) _ hbt (by rw [ltA];omega) oA).mono ?_;rintro e w3 ⟨a3,c3,rfl,hown3,hb3⟩;go_wp2_with fail;refine hK _ _ hb3 ?_;clear hK K l0 l1
    repeat (first|refine tsA ?_|refine tqA ?_)
    have hb03:Below w'.heap.size w' w3:=ae (AT _ _).drew hb3;have hlb:(f.b.take n8).length=n8:=(by rw [ltA];omega);have hpe:di.p {r with fs:=r.fs.set k ⟨f.nm,a3,c3,f.b.take n8,n8⟩}=jQ r.p nm (fun q=>{q with b:=q.b.take n8,sure:=n8}):=by
     rw [di.p_set hk h.nd (fun q=>{q with b:=q.b.take n8,sure:=n8}) _ (by rw [<-HF.out];rfl),<-HF.out,HN.out]
    have hstep:=h.both hB hk HG.out (w3:=w3) hb03 ⟨f.nm,a3,c3,f.b.take n8,n8⟩ (by rw [HF.out]) (by rw [hlb];exact hown3) (by
     rw [hpe];refine h.ok.upd _ _ (fun _ _=>rfl) (fun q hq hqn=> ?_) (fun q hq hqn=> ?_)
     .obtain ⟨f',hf',rfl⟩:=VY.1 hq;have e:f'=r.fs[k]:=db.same h hf' (VE hk) (by rw [<-HF.out,HN.out];exact hqn);show n8<=(f'.b.take n8).length;rw [e,<-HF.out,hlb];exact Lt _
     .have:=h.ok.size q hq;show (q.b.take n8).length<=_;rw [ltA];omega)
    rw [hlb] at hstep;have HSTEP:=Hd hstep;have HPE:=Hd hpe;obtain ⟨_,_,cur3,hcur3⟩:=(h.row.old (w':=w3) hb03).block_lt HG.out;have f3:=hcur3.free;have s3:w3.cell? ⟨g,k*3+1,none⟩=some (.slice f.a f.b.length f.c):=(hb03.cell (p:=⟨g,k*3+1,none⟩) (VV w' _ c1)).trans c1;have s4:w3.cell? ⟨g,k*3+2,none⟩=some (.int .i64 (f.sure:Int)):=(hb03.cell (p:=⟨g,k*3+2,none⟩) (VV w' _ c2)).trans c2;clear hstep hlb hpe;have hng:r.d≠g:=Blk.ne (h.blk.old hb03) hcur3 dcA;have s5:(w3.setCell ⟨g,k*3+1,none⟩ (.slice a3 n8 c3)).cell? ⟨r.d,0,none⟩=some (.slice (some ⟨g,0,none⟩) r.fs.length r.lc):=(VJ (a:=⟨r.d,0,none⟩) (VU w3 ⟨g,k*3+1,none⟩ r.d _ hng)).trans ((hb03.cell (p:=⟨r.d,0,none⟩) (VV w' _ b0)).trans b0);refine az rfl rfl rfA (fun K hK=> ?_);go_wp2_with fail;refine ap ?_;go_wp2_with fail;go_ret;exact ⟨by rw [HR2.out];first|rfl|simp,_,by rw [HR2.out];exact HPE.out,HSTEP.out.1⟩
theorem Ji:lR prog 118 3:=⟨⟨_,underlying118,rfl⟩,krA⟩
theorem Lu:bu prog 46 118 3 48:=bu.mk (z:= .agg #[.string ⟨#[]⟩,.slice none 0 0,.int .i64 0]) underlying46 krA rfl oA
theorem uX (l:List cQ):(l.flatMap aS).length=l.length*3:=by
 induction l with
 |nil=>rfl
 |cons x l ih=>rw [Vh,laA,ih,VT];show 3+_=_;omega
theorem JX {α:Type} (l:List α) (k j:Nat) (hj:j<l.length):(l.take (j+1)).eraseIdx k=if j=k then (l.take j).eraseIdx k else (l.take j).eraseIdx k++ [l[j]]:=by
 rw [VW hj];have hl:(l.take j).length=j:=(by rw [ltA];omega);by_cases e:j=k
 .subst e;rw [if_pos rfl,List.eraseIdx_append_of_length_le oA,hl,Nat.sub_self];simp [List.eraseIdx_of_length_le (show (l.take j).length<=j by omega)]
 .rw [if_neg e];by_cases h:k<j
  .rw [List.eraseIdx_append_of_lt_length oA]
  .rw [List.eraseIdx_append_of_length_le oA,hl,List.eraseIdx_of_length_le (show ([l[j]]:List α).length<=k-j by simp;omega),List.eraseIdx_of_length_le (show (l.take j).length<=k by omega)]
theorem dN.sub {p:aM} (h:dN p) {fs:List dx} (hs:fs.Sublist p.fs):dN {p with fs:=fs}:=
 ⟨(hs.map _).nodup h.names,fun f hf=>h.named f (hs.subset hf),fun f hf=>h.sure f (hs.subset hf),fun f hf=>h.size f (hs.subset hf),At hs.length_le h.count,h.left⟩
section
variable {P:Program}
theorem nU (t ty:TypeId) {e:TypeId} {size bytes:Nat} (hT:bu P t e size bytes) {w:World} {B:Nat} {sa:Option Addr} {n sc:Nat} {vs:List Value} (h:Own w B e size sa n sc vs)
  {xa:Option Addr} {m xc:Nat} {news:List Value} (hrow:aw w xa news) (hl:news.length=m*size) (hm:0<m) (h1:∀u∈news,u.oneCell'=true) (h63:n+m<=maxLen) (hbytes:(n+m)*bytes<=140737488355328) (hB:B<=w.heap.size):
  ∃b c' w',(Builtin.append_ #[t,t] ty #[.slice sa n sc,.slice xa m xc]).run P w= .ok (.slice (some ⟨b,0,none⟩) (n+m) c') w'/\Own w' B e size (some ⟨b,0,none⟩) (n+m) c' (vs++news)/\w.grownBy w' (Value.slice sa n sc).ownBlock/\
   ((∃ad,sa=some ad/\b=ad.block)\/w.heap.size<=b):=by
 obtain ⟨ht,hsz,i,z,hi,hz,hsize,hby,hzs⟩:=hT;obtain ⟨b0,o0,rfl,_⟩:=hrow 0 (by rw [hl];exact Nat.mul_pos hm hsz);have hnews:∀j u,news[j]? =some u->w.cell? ((⟨b0,o0,none⟩:Addr).add j)=some u:=fun j u hu=>by
  obtain ⟨hj,rfl⟩:=Vg.1 hu;obtain ⟨b',o',he,hc⟩:=hrow j hj;cases he;rw [Vs];exact hc
 obtain ⟨v',w2,q0,q1,q2,_⟩:=run_append_own (P:=P) w B t ty e i z size bytes ht hi hz hsize hby hzs hsz (.slice sa n sc) n vs h ⟨b0,o0,none⟩ m xc news hl hnews h1 h63 hbytes hB;have h63':n+m<=9223372036854775807:=(by simp only [maxLen] at h63;omega);subst hsize;subst hby
 rcases h.2 with ⟨k1,k2⟩|⟨g,cap,cur,k1,hbg,hg,hnc,hcm,hcs,htake⟩
 .simp only [VC] at k1;obtain ⟨rfl,rfl,rfl⟩:=k1;have hx:vs=[]:=Vz (by simpa using h.1);subst hx;have hr:=run_append_nil (P:=P) w t ty e i z ht hi hz ⟨b0,o0,none⟩ m xc news hl hnews oA oA (by have hb:=hbytes;simp only [VS] at hb;omega);rw [hr] at q0;simp only [Result.ok.injEq] at q0;obtain ⟨rfl,rfl⟩:=q0;rw [show m=0+m from (VS m).symm] at hr;exact ⟨_,_,_,by simpa using hr,by simpa [Own] using q1,q2,.inr (Lt _)⟩
 .simp only [VC] at k1;obtain ⟨rfl,-,rfl⟩:=k1;by_cases hroom:n+m<=sc
  .have hfit:n*i.size+news.length<=cur.size:=(by rw [hl,hcs,<-Ws];exact WZ _ hroom);have hr:=run_append_room (P:=P) w t ty e i ht hi g n sc cur hg ⟨b0,o0,none⟩ m xc news hl hnews h1 hroom hfit;rw [hr] at q0;simp only [Result.ok.injEq] at q0;obtain ⟨rfl,rfl⟩:=q0;exact ⟨_,_,_,hr,q1,q2,.inl ⟨_,rfl,rfl⟩⟩
  .have hr:=run_append_grow (P:=P) w t ty e i z ht hi hz ⟨g,0,none⟩ n sc vs h.1 (World.ownsRow.cells h (g:=g) rfl) ⟨b0,o0,none⟩ m xc news hl hnews oA oA (growslice_fits oA hbytes);rw [hr] at q0;simp only [Result.ok.injEq] at q0;obtain ⟨rfl,rfl⟩:=q0;exact ⟨_,_,_,hr,q1,q2,.inr (Lt _)⟩
theorem fW {w:World} {o:Oper} {a:Act} {K:Act->World->Prop} {Q:Exit->Act->World->Prop} (s x:Operand) (t:TypeId) (ho:o.op= .call {callee:= .builtin .append,args:= #[s,x],argTypes:= #[t,t]})
  {e:TypeId} {size bytes:Nat} (hT:bu P t e size bytes) {B:Nat} {sa:Option Addr} {n sc:Nat} {vs:List Value} (hs:a.eval s= .slice sa n sc) (h:Own w B e size sa n sc vs)
  {xa:Option Addr} {m xc:Nat} {news:List Value} (hx:a.eval x= .slice xa m xc) (hrow:aw w xa news) (hl:news.length=m*size) (hm:0<m) (h1:∀u∈news,u.oneCell'=true) (h63:n+m<=maxLen) (hbytes:(n+m)*bytes<=140737488355328) (hB:B<=w.heap.size)
  (hK:∀b c' w',Own w' B e size (some ⟨b,0,none⟩) (n+m) c' (vs++news)->w.grownBy w' (Value.slice sa n sc).ownBlock->((∃ad,sa=some ad/\b=ad.block)\/w.heap.size<=b)->K (a.put o.dst (.slice (some ⟨b,0,none⟩) (n+m) c')) w'):o.wp P a w K Q:=by
 obtain ⟨b,c',w',hrun,r1,r2,r3⟩:=nU (P:=P) t o.type hT h hrow hl hm h1 h63 hbytes hB (xc:=xc);unfold Oper.wp;simp [execOp,ho,resolve,invoke,builtin,hs,hx,hrun,Result.andThen];exact hK b c' w' r1 r2 r3
end
def gy {α:Type} (l:List α) (f:α) (i:Nat):List α:=l.take i++f::l.drop i
theorem dZ {α:Type} (l:List α) (f:α) (i:Nat):(gy l f i).length=l.length+1:=by simp [gy];omega
theorem Cs {α:Type} (l:List α) (f:α):gy l f l.length=l++ [f]:=by simp [gy]
theorem rC {α:Type} (l:List α) (f:α) (i:Nat):(gy l f i).Perm (l++ [f]):=by
 unfold gy;refine (List.perm_middle).trans ?_;rw [WW];exact (List.perm_append_comm (l₁:=[f]) (l₂:=l))
theorem EY {α:Type} (l:List α) (f:α) (i:Nat) (hi:i<=l.length):(gy l f i)[i]'(by rw [dZ];omega)=f:=by
 unfold gy;rw [List.getElem_append_right soA];simp [Nat.min_eq_left hi]
theorem yt {α:Type} (l:List α) (f:α) (i j:Nat) (hi:i<=l.length) (hj:j<i):(gy l f i)[j]'(by rw [dZ];omega)=l[j]' oA:=by
 unfold gy;rw [List.getElem_append_left soA];simp
theorem uQ {α:Type} (l:List α) (f:α) (i j:Nat) (hi:i<=l.length):(gy l f i)[j]? =if j<i then l[j]? else if j=i then some f else l[j-1]? :=by
 unfold gy;have hl:(l.take i).length=i:=soA;rcases Nat.lt_trichotomy j i with h|h|h
 .rw [if_pos h,Vm oA,List.getElem?_take,if_pos h]
 .subst h;rw [if_neg oA,if_pos rfl,WU oA,hl,Nat.sub_self];rfl
 .rw [if_neg oA,if_neg oA,WU oA,hl];obtain ⟨m,rfl⟩:∃m,j=i+1+m:=⟨j-(i+1),oA⟩;rw [show i+1+m-i=m+1 by omega,List.getElem?_cons_succ,WD];congr 1;omega
theorem zQ {α:Type} (l:List α) (f:α) (j:Nat) (hj:j<l.length):((gy l f (j+1)).set (j+1) l[j]).set j f=gy l f j:=by
 refine List.ext_getElem? fun i=> ?_;rw [List.getElem?_set,List.getElem?_set,uQ _ _ _ _ oA,uQ _ _ _ _ oA];simp only [Xx,dZ];rcases Nat.lt_trichotomy i j with h|h|h
 .rw [if_neg oA,if_neg oA,if_pos oA,if_pos oA]
 .subst h;rw [if_pos rfl,if_pos oA,if_neg oA,if_pos rfl]
 .rw [if_neg (show ¬j=i by omega),if_neg (show ¬i<j by omega),if_neg (show ¬i=j by omega)];by_cases e:j+1=i
  .subst e;rw [if_pos rfl,if_pos oA,Xe,Vx hj]
  .rw [if_neg e,if_neg oA,if_neg oA]
def qN (x y:bz):Bool:=Op.bytesLess x.toList y.toList
theorem dN.perm {p:aM} (h:dN p) {fs:List dx} (hp:fs.Perm p.fs):dN {p with fs:=fs}:=
 ⟨((hp.map _).nodup_iff).2 h.names,fun f hf=>h.named f (hp.mem_iff.1 hf),fun f hf=>h.sure f (hp.mem_iff.1 hf),fun f hf=>h.size f (hp.mem_iff.1 hf),by have:=hp.length_eq;have:=h.count;show fs.length<=64;omega,h.left⟩
def qx (B:Nat) (w:World) (r:di) (f:cQ) (w':World):Prop:=
 ∃i la lc,i<=r.fs.length/\(i=0\/∃h:i-1<r.fs.length,qN f.nm r.fs[i-1].nm=false)/\(∀j (hj:j<r.fs.length),i<=j->qN f.nm r.fs[j].nm=true)/\
  db w' B {r with fs:=gy r.fs f i,la:=la,lc:=lc}/\aJ (fun x=>x=r.d\/∃ad,r.la=some ad/\x=ad.block) w w'/\∀ad,la=some ad->(∃ad',r.la=some ad'/\ad.block=ad'.block)\/w.heap.size<=ad.block
def Fp (b n c:Nat):DU:= .agg [.lit (.int .i64 (b:Int)),.lit (.int .i64 (n:Int)),.lit (.int .i64 (c:Int))]
def Rs (v:Value):Option (DU×List MemPlace):=match v with
 | .slice (some ⟨b,0,none⟩) n c=>some (Fp b n c,[])
 | .slice none 0 0=>some (.agg [],[])
 |_=>none
def Rb (v:Value):Option (DU×List MemPlace):=match v with
 | .pointer (some ⟨b,0,none⟩)=>some (.lit (.int .i64 (b:Int)),[])
 | .pointer none=>some (.agg [],[])
 |_=>none
theorem Pe (b n c:Nat):Rs (.slice (some ⟨b,0,none⟩) n c)=some (Fp b n c,[]):=rfl
theorem GO {v:Value} {b n c:Nat} {ps:List MemPlace} (h:Rs v=some (Fp b n c,ps)):v= .slice (some ⟨b,0,none⟩) n c:=by
 unfold Rs at h;split at h
 .simp only [Fp,Vn,Prod.mk.injEq,DataW.agg.injEq,XG,DataW.lit.injEq,Lit.int.injEq,true_and,and_true,Int.natCast_inj] at h;obtain ⟨⟨rfl,rfl,rfl⟩,-⟩:=h;rfl
 .simp [Fp] at h
 .cases h
theorem Ph (b:Nat):Rb (.pointer (some ⟨b,0,none⟩))=some (.lit (.int .i64 (b:Int)),[]):=rfl
theorem Mp {v:Value} {b:Nat} {ps:List MemPlace} (h:Rb v=some (.lit (.int .i64 (b:Int)),ps)):v= .pointer (some ⟨b,0,none⟩):=by
 unfold Rb at h;split at h
 .simp only [Vn,Prod.mk.injEq,DataW.lit.injEq,Lit.int.injEq,true_and,Int.natCast_inj] at h;rw [h.1]
 .simp at h
 .cases h
theorem rU (w:World):(zeroValue 34).run prog w= .ok (.slice none 0 0) w:=by kernel_rfl
theorem Az (w:World):(zeroValue 102).run prog w= .ok (.pointer none) w:=by kernel_rfl
theorem uO:Keyed prog 3:=int_keyed underlying3
def nY (n:Nat):Lit:= .int .i64 (n:Int)
theorem rA {n:Nat} (h:n<=1000000000000000):keyOf prog 3 (.int .i64 (n:Int))=some (nY n):=keyOf_int_mk underlying3 (gG h)
theorem oB {a b:Nat}:nY a=nY b↔a=b:=by simp [nY];omega
def atB (a:Option Addr) (x:Nat):Prop:=∃ad,a=some ad/\x=ad.block
def Gn (h:aW) (x:Nat):Prop:=atB h.d0.a x\/atB h.d1.a x\/atB h.dr.a x\/atB h.act.ids.a x
def qR (h:aW) (x:Nat):Prop:=Gn h x\/atB h.act.pairs.a x
section
variable {w w':World} {B:Nat} {p:ao} {h:aW}
theorem av.keepB {s:Sl} {l:List Int} (h:av w B s l) (hk:∀x,atB s.a x->w'.heap[x]? =w.heap[x]?):av w' B s l:=by
 have h1:=h.1.keepAt (w':=w') fun x hx=>hk _ ⟨x,hx,rfl⟩;exact ⟨h1,h1.row,h.2.2⟩
theorem aN.keepB {s:Sl} {l:List bK} (h:aN w B s l) (hk:∀x,atB s.a x->w'.heap[x]? =w.heap[x]?):aN w' B s l:=by
 have h1:=h.1.keepAt (w':=w') fun x hx=>hk _ ⟨x,hx,rfl⟩;exact ⟨h1,h1.row,h.2.2⟩
theorem aX.keepB (a:aX w B p h) (hk:∀x,qR h x->w'.heap[x]? =w.heap[x]?):aX w' B p h:=
 ⟨a.kind,a.game,a.table,a.fmt,a.n0,a.n1,a.d0.keepB fun x hx=>hk x (.inl (.inl hx)),a.d1.keepB fun x hx=>hk x (.inl (.inr (.inl hx))),a.dr.keepB fun x hx=>hk x (.inl (.inr (.inr (.inl hx)))),
  ⟨a.act.op,a.act.side,a.act.place,a.act.target,a.act.ids.keepB fun x hx=>hk x (.inl (.inr (.inr (.inr hx)))),a.act.pairs.keepB fun x hx=>hk x (.inr hx)⟩⟩
theorem aX.innerLt (a:aX w B p h) {x:Nat} (hx:qR h x):B<=x/\x<w.heap.size/\∃cur t,Blk w x cur t/\(t=3\/t=157):=by
 have go:∀{s:Sl} {l:List Int},av w B s l->atB s.a x->B<=x/\x<w.heap.size/\∃cur t,Blk w x cur t/\(t=3\/t=157):=fun ho ⟨ad,ha,e⟩=>by
  obtain ⟨h1,h2,cur,h3⟩:=ho.1.block_lt ha;subst e;exact ⟨h1,h2,cur,_,h3,.inl rfl⟩
 rcases hx with (hx|hx|hx|hx)|⟨ad,ha,e⟩
 .exact go a.d0 hx
 .exact go a.d1 hx
 .exact go a.dr hx
 .exact go a.act.ids hx
 .obtain ⟨h1,h2,cur,h3⟩:=a.act.pairs.1.block_lt ha;subst e;exact ⟨h1,h2,cur,_,h3,.inr rfl⟩
end
structure aV where
 v:Nat
 ma:Option Addr
 mc:Nat
 m:List UInt8
 R:jP
 da:Option Addr
 dc:Nat
 ds:List (ao×aW)
 mg:Nat
 f:Nat->Nat
 fc:Nat->Nat
 mb:Nat
 bl:List (Nat×Nat)
 down:Bool
def aV.l (V:aV):List ao:=V.ds.map Prod.fst
def aQ (V:aV):Array Value:= #[.slice V.ma V.m.length V.mc,.pointer (some ⟨V.R.l,0,none⟩),.slice V.da V.ds.length V.dc,.map (some V.mg),.map (some V.mb),.bool V.down]
def dv (ds:List (ao×aW)):List Value:=ds.flatMap fun x=>ak x.1 x.2
def iB (l:List ao) (g:Nat):List Value:=(cR l (g:Int)).map fun (j:Nat)=>Value.int .i64 (j:Int)
def kZ (l:List ao) (f fc:Nat->Nat):List (Lit×DU):=(List.range (aP l)).map fun g=>(nY g,Fp (f g) (cR l (g:Int)).length (fc g))
def Lx (y:Nat×Nat):Lit×DU:=(nY y.1,.lit (.int .i64 (y.2:Int)))
def dW (V:aV) (x:Nat):Prop:=x=V.v\/atB V.ma x\/atB V.da x\/(∃y∈V.ds,qR y.2 x)\/x=V.mg\/x=V.mb\/(∃g,g<aP V.l/\x=V.f g)\/∃y∈V.bl,x=y.2
structure aR (w:World) (B d:Nat) (V:aV):Prop where
 ge:B<=V.v/\B<=V.mg/\B<=V.mb/\V.mg≠V.mb
 blk:Blk w V.v (aQ V) 93
 master:Own w B 5 1 V.ma V.m.length V.mc (V.m.map bv)
 mz:V.m.length<=1000000
 log:ld w B d V.R
 deeds:Own w B 40 15 V.da V.ds.length V.dc (dv V.ds)
 each:∀x∈V.ds,aX w B x.1 x.2
 gm:iP w prog 3 Rs V.mg (kZ V.l V.f V.fc)
 rows:∀g,g<aP V.l->Own w B 3 1 (some ⟨V.f g,0,none⟩) (cR V.l (g:Int)).length (V.fc g) (iB V.l g)
 sepf:∀g g',g<aP V.l->g'<aP V.l->V.f g=V.f g'->g=g'
 sepi:∀g,g<aP V.l->∀x∈V.ds,¬Gn x.2 (V.f g)
 bm:iP w prog 3 Rb V.mb (V.bl.map Lx)
 boxes:∀y∈V.bl,B<=y.2/\y.1<=4096/\fI w y.2 V.m y.1
 sepl:∀x,dW V x->¬dJ V.R x
 good:qU V.l
 cnt:V.ds.length<=V.R.ls.length
section
variable {w w' w'':World} {B d:Nat} {V V' V'':aV} {r r' r'':aF}
theorem aV.len (V:aV):V.l.length=V.ds.length:=lmA ..
theorem aR.small (h:aR w B d V):V.ds.length<=4096/\aP V.l<=4096/\∀g,(cR V.l g).length<=4096:=by
 have h1:=h.cnt;have h2:=h.log.cnt;have h3:=pY V.l;rw [V.len] at h3;refine ⟨oA,oA,fun g=> ?_⟩;have h4:=Gd V.l g;rw [V.len] at h4;rw [gU];omega
theorem aR.keep (h:aR w B d V) (hk:∀x,dJ V.R x\/dW V x->w'.heap[x]? =w.heap[x]?):aR w' B d V:=
 ⟨h.ge,(hk _ (.inr (.inl rfl))).trans h.blk,h.master.keepAt fun x hx=>hk _ (.inr (.inr (.inl ⟨x,hx,rfl⟩))),h.mz,h.log.keep fun x hx=>hk _ (.inl hx),
  h.deeds.keepAt fun x hx=>hk _ (.inr (.inr (.inr (.inl ⟨x,hx,rfl⟩)))),fun x hx=>(h.each x hx).keepB fun y hy=>hk _ (.inr (.inr (.inr (.inr (.inl ⟨x,hx,hy⟩))))),
  h.gm.keep (hk _ (.inr (.inr (.inr (.inr (.inr (.inl rfl))))))),fun g hg=>(h.rows g hg).keepAt fun x hx=>hk _ (.inr (.inr (.inr (.inr (.inr (.inr (.inr (.inl ⟨g,hg,by cases hx;rfl⟩)))))))),
  h.sepf,h.sepi,h.bm.keep (hk _ (.inr (.inr (.inr (.inr (.inr (.inr (.inl rfl)))))))),fun y hy=>⟨(h.boxes y hy).1,(h.boxes y hy).2.1,(hk _ (.inr (.inr (.inr (.inr (.inr (.inr (.inr (.inr ⟨y,hy,rfl⟩))))))))).trans (h.boxes y hy).2.2⟩,h.sepl,h.good,h.cnt⟩
theorem aR.ltR (h:aR w B d V) {x:Nat} (hx:dW V x):B<=x/\x<w.heap.size:=by
 rcases hx with rfl|⟨ad,ha,rfl⟩|⟨ad,ha,rfl⟩|⟨y,hy,hi⟩|rfl|rfl|⟨g,hg,rfl⟩|⟨y,hy,rfl⟩
 .exact ⟨h.ge.1,h.blk.lt⟩
 .exact ⟨(h.master.block_lt ha).1,(h.master.block_lt ha).2.1⟩
 .exact ⟨(h.deeds.block_lt ha).1,(h.deeds.block_lt ha).2.1⟩
 .exact ⟨((h.each y hy).innerLt hi).1,((h.each y hy).innerLt hi).2.1⟩
 .exact ⟨h.ge.2.1,h.gm.lt⟩
 .exact ⟨h.ge.2.2.1,h.bm.lt⟩
 .exact ⟨((h.rows g hg).block_lt rfl).1,((h.rows g hg).block_lt rfl).2.1⟩
 .exact ⟨(h.boxes y hy).1,(h.boxes y hy).2.2.lt⟩
theorem aR.lt (h:aR w B d V) {x:Nat} (hx:dJ V.R x\/dW V x):B<=x/\x<w.heap.size:=hx.elim h.log.lt h.ltR
theorem aR.old (h:aR w B d V) (hb:Below w.heap.size w w'):aR w' B d V:=h.keep fun x hx=>hb.block x (h.lt hx).2
structure VL (w:World) (B:Nat) (r:aF) (V:aV):Prop where
 disk:aG w B r
 vault:aR w B r.d V
 apart:∀x,dJ V.R x\/dW V x->¬eM r x
def jU (r:aF) (V:aV) (x:Nat):Prop:=eM r x\/dJ V.R x\/dW V x
theorem VL.keep (h:VL w B r V) (hk:∀x,jU r V x->w'.heap[x]? =w.heap[x]?):VL w' B r V:=⟨h.disk.keep fun x hx=>hk x (.inl hx),h.vault.keep fun x hx=>hk x (.inr hx),h.apart⟩
theorem VL.lt (h:VL w B r V) {x:Nat} (hx:jU r V x):B<=x/\x<w.heap.size:=hx.elim h.disk.lt h.vault.lt
theorem VL.old (h:VL w B r V) (hb:Below w.heap.size w w'):VL w' B r V:=h.keep fun x hx=>hb.block x (h.lt hx).2
theorem VL.dl (h:VL w B r V):DL w B r V.R:=⟨h.disk,h.vault.log,fun x hx=>h.apart x (.inl hx)⟩
structure ib (B:Nat) (w:World) (r:aF) (V:aV) (w':World) (r':aF) (V':aV):Prop where
 turn:aJ (jU r V) w w'
 at':VL w' B r' V'
 foot':∀x,jU r' V' x->jU r V x\/w.heap.size<=x
 d:r'.d=r.d
 v:V'.v=V.v
 m:V'.m=V.m
theorem ib.trans (h:ib B w r V w' r' V') (h':ib B w' r' V' w'' r'' V''):ib B w r V w'' r'' V'':=
 ⟨h.turn.trans h'.turn h.foot',h'.at',fun x hx=>by
  rcases h'.foot' x hx with h1|h1
  .exact h.foot' x h1
  .exact .inr (At h.turn.size h1),h'.d.trans h.d,h'.v.trans h.v,h'.m.trans h.m⟩
theorem ib.below (h:ib B w r V w' r' V') (hr:VL w B r V) (hB:B<=w.heap.size):Below B w w':=h.turn.below (fun _ hx=>(hr.lt hx).1) hB
theorem ib.old (h:VL w B r V) (hb:Below w.heap.size w w'):ib B w r V w' r V:=⟨aJ.of_below hb,h.old hb,fun _ hx=> .inl hx,rfl,rfl,rfl⟩
structure ij (B d:Nat) (w:World) (V:aV) (w':World) (V':aV):Prop where
 turn:aJ (dW V) w w'
 at':aR w' B d V'
 foot':∀x,dW V' x->dW V x\/w.heap.size<=x
 R:V'.R=V.R
 v:V'.v=V.v
 m:V'.m=V.m
 down:V'.down=V.down
theorem ij.refl (h:aR w B d V):ij B d w V w V:=⟨aJ.refl _ _,h,fun _ hx=> .inl hx,rfl,rfl,rfl,rfl⟩
theorem ij.old (h:aR w B d V) (hb:Below w.heap.size w w'):ij B d w V w' V:=⟨aJ.of_below hb,h.old hb,fun _ hx=> .inl hx,rfl,rfl,rfl,rfl⟩
theorem ij.trans (h:ij B d w V w' V') (h':ij B d w' V' w'' V''):ij B d w V w'' V'':=
 ⟨h.turn.trans h'.turn h.foot',h'.at',fun x hx=>by
  rcases h'.foot' x hx with h1|h1
  .exact h.foot' x h1
  .exact .inr (At h.turn.size h1),h'.R.trans h.R,h'.v.trans h.v,h'.m.trans h.m,h'.down.trans h.down⟩
theorem ij.step (hs:ij B r.d w V w' V') (h:VL w B r V):ib B w r V w' r V':=by
 refine ⟨hs.turn.mono fun x hx=> .inr (.inr hx),⟨h.disk.turn hs.turn fun x hx hF=>h.apart x (.inr hF) hx,hs.at',fun x hx hf=> ?_⟩,fun x hx=> ?_,rfl,hs.v,hs.m⟩
 .rcases hx with hx|hx
  .exact h.apart x (.inl (by rw [hs.R] at hx;exact hx)) hf
  .rcases hs.foot' x hx with h1|h1
   .exact h.apart x (.inr h1) hf
   .have:=(h.disk.lt hf).2;omega
 .rcases hx with hx|hx|hx
  .exact .inl (.inl hx)
  .exact .inl (.inr (.inl (by rw [hs.R] at hx;exact hx)))
  .exact (hs.foot' x hx).imp (fun h=> .inr (.inr h)) id
theorem iq.vault (hs:iq B w r V.R w' r' V'.R) (h:VL w B r V) (hV:V'={V with R:=V'.R}) (hc:V.ds.length<=V'.R.ls.length):ib B w r V w' r' V':=by
 have hvr:∀x,dW V' x↔dW V x:=fun x=>(by rw [hV];rfl);have hkeep:∀x,dW V x->w'.heap[x]? =w.heap[x]? :=fun x hx=>hs.turn.block x (h.vault.ltR hx).2 fun hF=>hF.elim (fun hf=>h.apart x (.inr hx) hf) (h.vault.sepl x hx);have hnew:∀x,dW V x->¬(eM r' x\/dJ V'.R x):=fun x hx hf=>by
  rcases hs.foot' x hf with h1|h1
  .exact h1.elim (fun hf=>h.apart x (.inr hx) hf) (h.vault.sepl x hx)
  .have:=(h.vault.ltR hx).2;omega
 have hat:aR w' B r'.d V':=by
  rw [hV];refine ⟨h.vault.ge,?_,h.vault.master.keepAt fun x hx=>hkeep _ (.inr (.inl ⟨x,hx,rfl⟩)),h.vault.mz,hs.at'.log,h.vault.deeds.keepAt fun x hx=>hkeep _ (.inr (.inr (.inl ⟨x,hx,rfl⟩))),
   fun x hx=>(h.vault.each x hx).keepB fun y hy=>hkeep _ (.inr (.inr (.inr (.inl ⟨x,hx,hy⟩)))),h.vault.gm.keep (hkeep _ (.inr (.inr (.inr (.inr (.inl rfl)))))),
   fun g hg=>(h.vault.rows g hg).keepAt fun x hx=>hkeep _ (.inr (.inr (.inr (.inr (.inr (.inr (.inl ⟨g,hg,by cases hx;rfl⟩))))))),h.vault.sepf,h.vault.sepi,h.vault.bm.keep (hkeep _ (.inr (.inr (.inr (.inr (.inr (.inl rfl))))))),
   fun y hy=>⟨(h.vault.boxes y hy).1,(h.vault.boxes y hy).2.1,(hkeep _ (.inr (.inr (.inr (.inr (.inr (.inr (.inr ⟨y,hy,rfl⟩)))))))).trans (h.vault.boxes y hy).2.2⟩,fun x hx=>fun hl=>hnew x hx (.inr hl),h.vault.good,hc⟩
  have e:aQ {V with R:=V'.R}=aQ V:=(by unfold aQ;dsimp only;rw [hs.l]);rw [e];exact (hkeep _ (.inl rfl)).trans h.vault.blk
 refine ⟨hs.turn.mono fun x hx=>hx.elim .inl fun h=> .inr (.inl h),⟨hs.at'.disk,hat,fun x hx hf=> ?_⟩,fun x hx=> ?_,hs.d,by rw [hV],by rw [hV]⟩
 .rcases hx with hx|hx
  .exact hs.at'.apart x hx hf
  .exact hnew x ((hvr x).1 hx) (.inl hf)
 .rcases hx with hx|hx|hx
  .exact (hs.foot' x (.inl hx)).imp (fun h=>h.elim .inl fun h=> .inr (.inl h)) id
  .exact (hs.foot' x (.inr hx)).imp (fun h=>h.elim .inl fun h=> .inr (.inl h)) id
  .exact .inl (.inr (.inr ((hvr x).1 hx)))
theorem ct.vault (hs:ct B w r w' r') (h:VL w B r V):ib B w r V w' r' V:=iq.vault (ct.log hs h.dl) h rfl h.vault.cnt
end
section
variable {w:World} {B d:Nat} {V:aV}
theorem mC {l:List ao} {f fc:Nat->Nat} {g:Nat} (hg:g<aP l):(nY g,Fp (f g) (cR l (g:Int)).length (fc g))∈kZ l f fc:=VY.2 ⟨g,Wk.2 hg,rfl⟩
theorem tu {l:List ao} {f fc:Nat->Nat} {g:Nat} (hg:aP l<=g):nY g∉(kZ l f fc).map Prod.fst:=fun h=>by
 unfold kZ at h;rw [WB] at h;obtain ⟨k,hk,e⟩:=VY.1 h;have:=Wk.1 hk;have e2:nY k=nY g:=e;rw [oB] at e2;omega
theorem Dr {v:Value} {ps:List MemPlace} (h:Rs v=some (.agg [],ps)):v= .slice none 0 0:=by
 unfold Rs at h;split at h
 .simp [Fp] at h
 .rfl
 .cases h
theorem JO {v:Value} {ps:List MemPlace} (h:Rb v=some (.agg [],ps)):v= .pointer none:=by
 unfold Rb at h;split at h
 .simp at h
 .rfl
 .cases h
theorem mD (l:List ao) (f fc:Nat->Nat):(kZ l f fc).length=aP l:=by simp [kZ]
theorem aR.size (h:aR w B d V) (ty:TypeId):(Builtin.len_ #[90] ty #[.map (some V.mg)]).run prog w= .ok (.int .i64 (aP V.l:Int)) w:=by
 rw [h.gm.len underlying90 ty,mD]
theorem aR.lookB (h:aR w B d V) {y:Nat×Nat} (hy:y∈V.bl):(Instr.lookup 91 (.map (some V.mb)) (.int .i64 (y.1:Int)) false).run prog w= .ok (.pointer (some ⟨y.2,0,none⟩)) w:=by
 have hk:=rA (n:=y.1) (by have:=(h.boxes y hy).2.1;omega);obtain ⟨v,ps,hr,hv⟩:=h.bm.look uO underlying91 (Az w) (show Rb (.pointer none)=some (.agg [],[]) from rfl) hk (VY.2 ⟨y,hy,rfl⟩);rw [hr,Mp hv]
theorem aR.noBox {g:Nat} (hn:∀y∈V.bl,y.1≠g):nY g∉(V.bl.map Lx).map Prod.fst:=fun hm=>by
 rw [WB] at hm;obtain ⟨y,hy,e⟩:=VY.1 hm;exact hn y hy (oB.1 e)
theorem aR.lookB_no (h:aR w B d V) {g:Nat} (hg:g<=4096) (hn:∀y∈V.bl,y.1≠g):(Instr.lookup 91 (.map (some V.mb)) (.int .i64 (g:Int)) false).run prog w= .ok (.pointer none) w:=by
 have hk:=rA (n:=g) oA;obtain ⟨v,ps,hr,hv⟩:=h.bm.look_no uO underlying91 (Az w) (show Rb (.pointer none)=some (.agg [],[]) from rfl) hk (aR.noBox hn);rw [hr,JO hv]
end
end
end Go.Proofs.YtioigihakjlopaaGreat
