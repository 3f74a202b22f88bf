import Derived.Test.YtioigihakjlopaaGreatVF13
namespace Go.Proofs.YtioigihakjlopaaGreat
open Go.Proofs.Tryz
set_option linter.unusedVariables false
set_option linter.unusedSimpArgs false
set_option maxHeartbeats 16000000
set_option maxRecDepth 100000
section
open Go.RowKit
theorem Kk (n:Int):IntKind.u32.wrap n=n%4294967296:=by simp [IntKind.wrap,IntKind.bits,IntKind.signed]
theorem oM (a b:BitVec 32):(U32 a+U32 b)%(4294967296:Int)=U32 (a+b):=by
 simp only [U32,BitVec.toNat_add];omega
theorem xi (a b:BitVec 32):IntKind.u32.wrap (U32 a+U32 b)=U32 (a+b):=by rw [Kk,oM]
theorem tx (a:BitVec 32):U32 a/(8:Int)=U32 (a>>>3):=jK a 3
theorem lL (a:BitVec 32):U32 a/(1024:Int)=U32 (a>>>10):=jK a 10
theorem sr (a:BitVec 32):U32 a*(256:Int)%(4294967296:Int)=U32 (a<<<8):=tF a 8
theorem AF (v:BitVec 32) (c:UInt8):U32 (v<<<8|||BitVec.ofInt 32 (U8 c%(4294967296:Int)))=U32 (v<<<8|||c.toBitVec.setWidth 32):=by
 rw [show U8 c%(4294967296:Int)=U8 c from by have:=As c;have:=xj c;omega,gJ]
attribute [local go_sem] sr gJ gX gY iK gh oM xi tx lL pN
def Hv:List Nat:=[7,18,17,19,6,11,25,2,13,22]
theorem fQ (x:BitVec 32) (n:Nat) (p q:Int) (hp:p=(2:Int)^(32-n)) (hq:q=(2:Int)^n):BitVec.ofInt 32 (U32 x*p%4294967296)|||BitVec.ofInt 32 (U32 x/q)=rr x n:=by
 have h1:U32 x*((2^(32-n):Nat):Int)%4294967296=U32 (x<<<(32-n)):=tF x (32-n);have h2:U32 x/(2:Int)^n=U32 (x>>>n):=jK x n;rw [hp,hq,h2,show (2:Int)^(32-n)=((2^(32-n):Nat):Int) by norm_cast,h1,gh,gh];rfl
theorem zn (x:BitVec 32) (n:Nat) (hn:n∈Hv) (w:World):
  Calls prog 206 #[.int .u32 (U32 x),.int .i64 (-(n:Int))] w fun e w'=>e= .returned (.int .u32 (U32 (rr x n)))/\w=w':=by
 simp only [Hv,Ve,List.not_mem_nil,or_false] at hn;rcases hn with rfl|rfl|rfl|rfl|rfl|rfl|rfl|rfl|rfl|rfl
 .have t:bits .and .u64 (IntKind.u64.wrap (-7)) 31=25:=dcA;go_enter func206,ntmps206;go_wp2_with fail;go_ret;exact ⟨by rw [<-fQ x 7 33554432 128 rfl rfl];rfl,rfl⟩
 .have t:bits .and .u64 (IntKind.u64.wrap (-18)) 31=14:=dcA;go_enter func206,ntmps206;go_wp2_with fail;go_ret;exact ⟨by rw [<-fQ x 18 16384 262144 rfl rfl];rfl,rfl⟩
 .have t:bits .and .u64 (IntKind.u64.wrap (-17)) 31=15:=dcA;go_enter func206,ntmps206;go_wp2_with fail;go_ret;exact ⟨by rw [<-fQ x 17 32768 131072 rfl rfl];rfl,rfl⟩
 .have t:bits .and .u64 (IntKind.u64.wrap (-19)) 31=13:=dcA;go_enter func206,ntmps206;go_wp2_with fail;go_ret;exact ⟨by rw [<-fQ x 19 8192 524288 rfl rfl];rfl,rfl⟩
 .have t:bits .and .u64 (IntKind.u64.wrap (-6)) 31=26:=dcA;go_enter func206,ntmps206;go_wp2_with fail;go_ret;exact ⟨by rw [<-fQ x 6 67108864 64 rfl rfl];rfl,rfl⟩
 .have t:bits .and .u64 (IntKind.u64.wrap (-11)) 31=21:=dcA;go_enter func206,ntmps206;go_wp2_with fail;go_ret;exact ⟨by rw [<-fQ x 11 2097152 2048 rfl rfl];rfl,rfl⟩
 .have t:bits .and .u64 (IntKind.u64.wrap (-25)) 31=7:=dcA;go_enter func206,ntmps206;go_wp2_with fail;go_ret;exact ⟨by rw [<-fQ x 25 128 33554432 rfl rfl];rfl,rfl⟩
 .have t:bits .and .u64 (IntKind.u64.wrap (-2)) 31=30:=dcA;go_enter func206,ntmps206;go_wp2_with fail;go_ret;exact ⟨by rw [<-fQ x 2 1073741824 4 rfl rfl];rfl,rfl⟩
 .have t:bits .and .u64 (IntKind.u64.wrap (-13)) 31=19:=dcA;go_enter func206,ntmps206;go_wp2_with fail;go_ret;exact ⟨by rw [<-fQ x 13 524288 8192 rfl rfl];rfl,rfl⟩
 .have t:bits .and .u64 (IntKind.u64.wrap (-22)) 31=10:=dcA;go_enter func206,ntmps206;go_wp2_with fail;go_ret;exact ⟨by rw [<-fQ x 22 1024 4194304 rfl rfl];rfl,rfl⟩
theorem Eh (x:BitVec 32) (n:Nat) (hn:n∈Hv) (w:World):
  Calls prog 205 #[.int .u32 (U32 x),.int .i64 (n:Int)] w fun e w'=>e= .returned (.int .u32 (U32 (rr x n)))/\w=w':=by
 have hn2:(n:Int)<=100:=by
  simp only [Hv,Ve,List.not_mem_nil,or_false] at hn;omega
 have HN:=Hd hn;clear hn;go_enter func205,ntmps205;go_wp2_with fail;refine (zn x n HN.out _).mono ?_;rintro e w' ⟨rfl,rfl⟩;go_wp2_with fail;go_ret;exact ⟨rfl,rfl⟩
def hcs (h:Nat->BitVec 32) (r n:Value) (j:Nat):Value:=if j<8 then wv (h j) else if j=8 then r else if j=9 then n else wv (kwd (j-10))
theorem Fa (h:Nat->BitVec 32) (r n:Value) {j:Nat} (hj:j<8):hcs h r n j= .int .u32 (U32 (h j)):=by rw [hcs,if_pos hj];rfl
theorem OJ (h:Nat->BitVec 32) (r n:Value) {j:Nat} (hj:j<64):hcs h r n (10+j)= .int .u32 (U32 (kwd j)):=by
 rw [hcs,if_neg oA,if_neg oA,if_neg oA,Nat.add_sub_cancel_left];rfl
theorem Ln:lR prog 270 74:=⟨⟨_,underlying270,rfl⟩,krA⟩
theorem xh:lR prog 267 8:=⟨⟨_,underlying267,rfl⟩,krA⟩
theorem Ao:lR prog 268 64:=⟨⟨_,underlying268,rfl⟩,krA⟩
theorem fG:lR prog 170 32:=⟨⟨_,underlying170,rfl⟩,krA⟩
theorem FQ:(Tryz.prog.info? 268).bind (·.zero)=some (.agg (vA 64 fun _=> .int .u32 0)):=by kernel_rfl
structure JS (w:World) (g H:Nat) (h:Nat->BitVec 32) (r n:Value) (W:Nat->BitVec 32) (wr:World):Prop where
 hash:Blk wr g (vA 74 (hcs h r n)) 270
 words:Blk wr H (vA 64 fun j=>wv (W j)) 268
 only:w.grownBy wr (some g)
def Bk1 (w:World) (g H:Nat) (h:Nat->BitVec 32) (r n:Value) (m:List UInt8) (f:Nat) (i:Value) (wr:World):Prop:=
 ∃t:Nat,f+t=16/\i= .int .i64 (t:Int)/\JS w g H h r n (fun j=>if j<t then wd m 0 j else 0#32) wr
def Bk2 (w:World) (g H:Nat) (h:Nat->BitVec 32) (r n:Value) (m:List UInt8) (t:Nat) (f:Nat) (i:Value) (wr:World):Prop:=
 ∃q:Nat,f+q=4/\i= .int .i64 (q:Int)/\JS w g H h r n (fun j=>if j=t then mN m (4*t) q else if j<t then wd m 0 j else 0#32) wr
def Bk3 (w:World) (g H:Nat) (h:Nat->BitVec 32) (r n:Value) (w0:Nat->BitVec 32) (f:Nat) (i:Value) (wr:World):Prop:=
 ∃t k:Nat,f+t=64/\t=16+k/\i= .int .i64 (t:Int)/\JS w g H h r n (wx w0 k) wr
def Bk4 (w:World) (g H V:Nat) (h:Nat->BitVec 32) (r n:Value) (u:Nat->BitVec 32) (f:Nat) (i:Value) (wr:World):Prop:=
 ∃t:Nat,f+t=64/\i= .int .i64 (t:Int)/\JS w g H h r n u wr/\Blk wr V (vA 8 fun j=>wv (vs h u t j)) 267
def Bk5 (w:World) (g:Nat) (h:Nat->BitVec 32) (r n:Value) (u:Nat->BitVec 32) (f:Nat) (i:Value) (wr:World):Prop:=
 ∃t:Nat,f+t=8/\i= .int .i64 (t:Int)/\Blk wr g (vA 74 (hcs (fun j=>if j<t then h j+vs h u 64 j else h j) r n)) 270/\w.grownBy wr (some g)
theorem jB:(Tryz.prog.info? 196).map (·.size)=some 1:=by kernel_rfl
theorem OG (f:Nat->Value) (t:Nat) (ht:t<64) (W:World):(Instr.index 268 (.agg (vA 64 f)) (.int .i64 (t:Int))).run prog W= .ok (f t) W:=
 en underlying268 underlying196 rfl jB W _ t _ (lW f ht) ht
theorem idx8 (f:Nat->Value) (t:Nat) (ht:t<8) (W:World):(Instr.index 267 (.agg (vA 8 f)) (.int .i64 (t:Int))).run prog W= .ok (f t) W:=
 en underlying267 underlying196 rfl jB W _ t _ (lW f ht) ht
theorem JU:Tryz.prog.arrayLen 267=8:=by kernel_rfl
theorem Fq:Tryz.prog.elem 267=196:=by kernel_rfl
theorem OW:Tryz.prog.underlying 267=some (.array (Tryz.prog.arrayLen 267) (Tryz.prog.elem 267)):=by rw [JU,Fq];exact underlying267
theorem OQ (b:Nat) (W:World):(Instr.sliceAt 267 (.pointer (some ⟨b,0,none⟩)) (some (.int .i64 1)) none none).run prog W= .ok (.slice (some ⟨b,1,none⟩) 7 7) W:=by
 rw [run_sliceAt_array_l W _ _ OW .i64 1 oA (by rw [JU];omega),Fq,et jB,JU];simp [slicedAt,Vs]
theorem OP (b:Nat) (W:World):(Instr.sliceAt 267 (.pointer (some ⟨b,0,none⟩)) none (some (.int .i64 7)) none).run prog W= .ok (.slice (some ⟨b,0,none⟩) 7 8) W:=by
 rw [run_sliceAt_array_h W _ _ OW .i64 7 oA (by rw [JU];omega),Fq,et jB,JU];simp [slicedAt,Vs]
theorem GA {h w w' u:Nat->BitVec 32} (hu:u=wx w 48) (hw:∀t,t<16->w t=w' t) (j:Nat) (hj:j<8):h j+vs h u 64 j=cmp h w' j:=by
 subst hu;exact yE (h:=h) (g:=h) (fun _ _=>rfl) hw j hj
theorem jb (x:BitVec 32) (n:Nat) (z:Int) (hz:z=(n:Int)) (hn:n∈Hv) (w:World):
  Calls prog 205 #[.int .u32 (U32 x),.int .i64 z] w fun e w'=>e= .returned (.int .u32 (U32 (rr x n)))/\w=w':=by
 subst hz;exact Eh x n hn w
theorem De (g:Nat) (h:Nat->BitVec 32) (r n:Value) (ba:Option Addr) (cap:Nat) (m:List UInt8) (w:World) (hg:Blk w g (vA 74 (hcs h r n)) 270) (hm:ah w ba m) (hlen:m.length=64) (hcap:64<=cap) (hmax:cap<=maxLen)
  (hap:∀b o,ba=some ⟨b,o,none⟩->b≠g):
  Calls prog 198 #[.pointer (some ⟨g,0,none⟩),.slice ba 64 cap] w fun e w'=>e= .returned (.tuple #[])/\Blk w' g (vA 74 (hcs (cmp h (wd m 0)) r n)) 270/\w.grownBy w' (some g):=by
 unfold maxLen at hmax;have hz1:=iQ FQ;obtain ⟨b,o,hba,hc⟩:=hm.at oA;subst hba;have hbg:=hap b o rfl;have HC:=Hd hc;have HL:=Hd hlen;clear hap hm hc hlen;go_enter func198,ntmps198;go_wp2_with fail;clear hz1;obtain ⟨H,hH⟩:=Le w.heap.size;have hgH:g<H:=(by rw [hH];exact hg.lt);refine af (fun W0=>JS w g H h r n (fun _=>0#32) W0) ⟨hg.alloc _,by rw [hH];exact Blk.new _ _ _,nh (Vv _ _) _⟩ ?_;rw [<-hH];have HH:=Hd hH;clear hH hg;rintro w0 hI;go_loopg [19] 16 (Bk1 w g H h r n m)
 case atStart=>exact ⟨0,oA,rfl,hI⟩
 case round=>
  clear hI;obtain ⟨t,hf,rfl,hI⟩:=hrel;by_cases ht:t<16
  .have tt:decide ((t:Int)<16)=true:=soA;have HF:=Hd hf;clear hf;obtain ⟨g0,rfl⟩:∃g:Nat,g=gk:=⟨_,rfl⟩;obtain ⟨p,hp⟩:=Le (4*t);have hpI:4*(t:Int)=(p:Int):=oA;have hp1:(p:Int)+4<=(cap:Int):=oA;have hp2:(p:Int)<=60:=oA;have HP:=Hd hp;clear hp;go_wp2_with fail;go_loopg [30] 4 (Bk2 w g H h r n m t)
   case atStart=>exact ⟨0,oA,rfl,⟨hI.hash,hI.words.ofV fun j _=>by
    by_cases e:j=t
    .subst e;rw [if_neg oA,if_pos rfl];rfl
    .rw [if_neg e],hI.only⟩⟩
   case round=>
    clear hI;obtain ⟨q,hf,rfl,hI⟩:=hrel;by_cases hq:q<4
    .have tq:decide ((q:Int)<4)=true:=soA;have hqI:(q:Int)<4:=oA;have hpq:p+q<m.length:=(by have:=HL.out;omega);have c0:wr.cell? ⟨b,o+p+q,none⟩=some (.int .u8 (U8 m[p+q])):=by
      rw [WP];exact hI.only.cell (HC.out (p+q) hpq) (by simpa using hbg)
     have c1:=hI.words.atV (show t<64 by omega) (show wv (if t=t then mN m (4*t) q else if t<t then wd m 0 t else 0#32)= .int .u32 (U32 (mN m (4*t) q)) by rw [if_pos rfl];rfl);have r3:=hI.words.free;have r4:=hI.words.lt;have htI:(t:Int)<64:=oA;have HF2:=Hd hf;clear hf;go_wp2_with fail;clear c0 c1 r3;go_roundg (gk-1)
     case rel=>
      have hf:=HF2.out;refine ⟨q+1,oA,gnA,hI.hash.other _ _ (by show g≠H;omega),?_,ot hI.only (by rw [<-HH.out];omega) _⟩;refine (hI.words.setV oA _).ofV fun j _=> ?_;by_cases e:j=t
      .subst e;rw [if_pos rfl,if_pos rfl,AF,mN,byt,VX,<-HP.out,Vx hpq];rfl
      .rw [if_neg e,if_neg e,if_neg e]
     case measure=>have hf:=HF2.out;omega
    .obtain rfl:q=4:=oA;have tq:decide (((4:Nat):Int)<4)=false:=skA;clear hf;go_wp2_with fail;go_roundg (g0-1)
     case rel=>
      have hf:=HF.out;exact ⟨t+1,oA,gnA,hI.hash,hI.words.ofV fun j _=>by
       by_cases e:j=t
       .subst e;rw [if_pos rfl,if_pos oA,wd,VS]
       .rw [if_neg e];by_cases e2:j<t
        .rw [if_pos e2,if_pos oA]
        .rw [if_neg e2,if_neg oA],hI.only⟩
     case measure=>have hf:=HF.out;omega
  .obtain rfl:t=16:=oA;have tt:decide (((16:Nat):Int)<16)=false:=skA;clear hf;obtain ⟨w00,hw00⟩:∃u:Nat->BitVec 32,u=fun j=>if j<16 then wd m 0 j else 0#32:=⟨_,rfl⟩;rw [<-hw00] at hI;go_wp2_with fail;go_loopg [9] 48 (Bk3 w g H h r n w00)
   case atStart=>exact ⟨16,0,oA,oA,rfl,hI⟩
   case round=>
    clear hI;obtain ⟨t,k,hf,hk,rfl,hI⟩:=hrel;by_cases ht:t<64
    .have tt:decide ((t:Int)<64)=true:=soA;have HF:=Hd hf;clear hf;obtain ⟨k1,hk1⟩:=Le (k+1);obtain ⟨k9,hk9⟩:=Le (k+9);obtain ⟨k14,hk14⟩:=Le (k+14);have e1:IntKind.i64.wrap ((t:Int)-15)=(k1:Int):=(by rw [VD _ oA];omega);have e2:IntKind.i64.wrap ((t:Int)-2)=(k14:Int):=(by rw [VD _ oA];omega);have e3:IntKind.i64.wrap ((t:Int)-16)=(k:Int):=(by rw [VD _ oA];omega);have e4:IntKind.i64.wrap ((t:Int)-7)=(k9:Int):=(by rw [VD _ oA];omega);have i1:(k1:Int)<64:=oA;have i2:(k14:Int)<64:=oA;have i3:(k:Int)<64:=oA;have i4:(k9:Int)<64:=oA;have i5:(t:Int)<64:=oA;obtain ⟨u,hu⟩:=Le (wx w00 k);rw [<-hu] at hI;have C1:∀W,Old wr.drew W->W.cell? ⟨H,k1,none⟩=some (.int .u32 (U32 (u k1))):=fun W h=>(hI.words.drew.old h).atV oA rfl;have C2:∀W,Old wr.drew W->W.cell? ⟨H,k14,none⟩=some (.int .u32 (U32 (u k14))):=fun W h=>(hI.words.drew.old h).atV oA rfl;have D3:∀W,Old wr.drew.drew W->W.cell? ⟨H,k,none⟩=some (.int .u32 (U32 (u k))):=fun W h=>(hI.words.drew.drew.old h).atV oA rfl;have D4:∀W,Old wr.drew.drew W->W.cell? ⟨H,k9,none⟩=some (.int .u32 (U32 (u k9))):=fun W h=>(hI.words.drew.drew.old h).atV oA rfl;have HU:=Hd hu;have HK:=Hd hk;have HK1:=Hd hk1;have HK9:=Hd hk9;have HK14:=Hd hk14;clear hu hk hk1 hk9 hk14;go_wp2_with fail;refine aA (0::1::2::3::4::5::6::7::8::9::[]) krA krA cdA ?_
     repeat (first|refine lsA ?_|refine lqA ?_)
     refine bO ?_;clear C1 C2;go_wp2_with fail;refine aj true Old Old.refl Old.trans (.step 0 (.step 1 (.step 2 (.step 3 (.step 4 (.step 5 (.step 6 (.step 7 (.step 8 (.step 9 (.step 10 (.step 11 (.step 13 (.step 14 (.step 17 (.step 18 (.step 21 (.step 22 (.step 24 (.step 25 (.step 28 (.step 29 (.step 12 (.step 15 (.step 16 (.step 19 (.step 20 (.step 23 (.step 26 (.step 27 (.step 30 (.step 31 (.step 32 (.step 33 .done)))))))))))))))))))))))))))))))))) krA krA cdA ?_
     repeat (first|refine tsA ?_|refine tqA ?_)
     refine an rfl rfl rfA (fun K hK=> ?_);go_wp2_with fail;refine (jb (u k1) 7 7 rfl dcA _).mono ?_;rintro e w' ⟨rfl,rfl⟩;go_wp2_with fail;refine hK _ _ (Old.refl _) ?_;clear hK K
     repeat (first|refine tsA ?_|refine tqA ?_)
     refine an rfl rfl rfA (fun K hK=> ?_);go_wp2_with fail;refine (jb (u k1) 18 18 rfl dcA _).mono ?_;rintro e w' ⟨rfl,rfl⟩;go_wp2_with fail;refine hK _ _ (Old.refl _) ?_;clear hK K
     repeat (first|refine tsA ?_|refine tqA ?_)
     refine an rfl rfl rfA (fun K hK=> ?_);go_wp2_with fail;refine (jb (u k14) 17 17 rfl dcA _).mono ?_;rintro e w' ⟨rfl,rfl⟩;go_wp2_with fail;refine hK _ _ (Old.refl _) ?_;clear hK K
     repeat (first|refine tsA ?_|refine tqA ?_)
     refine an rfl rfl rfA (fun K hK=> ?_);go_wp2_with fail;refine (jb (u k14) 19 19 rfl dcA _).mono ?_;rintro e w' ⟨rfl,rfl⟩;go_wp2_with fail;refine hK _ _ (Old.refl _) ?_;clear hK K
     repeat (first|refine tsA ?_|refine tqA ?_)
     have hd:=hI.words.drew.drew;have f3:=hd.free;have c3:=hd.atV (show t<64 by omega) rfl;refine az rfl rfl rfA (fun K hK=> ?_);go_wp2_with fail;refine ap ?_;clear f3 c3;go_wp2_with fail;go_roundg (gk-1)
     case rel=>
      have hf:=HF.out;have hk:=HK.out;refine ⟨t+1,k+1,oA,oA,gnA,hI.hash.drew.drew.other _ _ (by show g≠H;omega),?_,ot (iC (iC hI.only)) (by rw [<-HH.out];omega) _⟩;refine (hd.setV oA _).ofV fun j _=> ?_;simp only [wx];rw [<-HU.out,<-hk,show t-16=k by omega,show t-7=k9 by have:=HK9.out;omega,show t-15=k1 by have:=HK1.out;omega,show t-2=k14 by have:=HK14.out;omega];by_cases e:j=t
      .rw [if_pos e,if_pos e];rfl
      .rw [if_neg e,if_neg e]
     case measure=>have hf:=HF.out;omega
    .obtain rfl:t=64:=oA;have tt:decide (((64:Nat):Int)<64)=false:=skA;obtain rfl:k=48:=oA;clear hf hk;obtain ⟨u,hu⟩:=Le (wx w00 48);rw [<-hu] at hI;have HU:=Hd hu;have HW:=Hd hw00;clear hu hw00;have hhash:=hI.hash;have hp1:((vA 74 (hcs h r n)).toList.drop 0).take 8=vL 8 fun j=>wv (h j):=by
      rw [AJ _ oA];exact He fun j hj=>by rw [VS,Fa _ _ _ hj];rfl
     have hp2:((vA 74 (hcs h r n)).toList.drop 10).take 64=vL 64 fun j=>wv (kwd j):=by
      rw [AJ _ oA];exact He fun j hj=>by rw [OJ _ _ _ hj];rfl
     have HP1:=Hd hp1;have HP2:=Hd hp2;clear hp1 hp2;go_upto_region 17 with (first|refine dk rfl 267 xh _ rfl rfl hhash HP1.out (cM _ _) ?_|refine aa rfl 267 xh (.tmp 12) _ (cells:=vA 8 fun j=>wv (h j)) rfl rfl rfl (Blk.new _ _ _) (ax _ _) rfl (du fun _ _=>rfl) ?_);obtain ⟨V,hV⟩:=Le wr.heap.size;have hHV:H<V:=(by have:=hI.words.lt;omega);have hV0:=Blk.new wr (vA 8 fun _=> .int .u32 0) 267;rw [<-hV] at hV0⊢;refine af (fun W0=>JS w g H h r n u W0/\Blk W0 V (vA 8 fun j=>wv (h j)) 267) ⟨⟨(hI.hash.alloc _).setRow_other _ _ oA,(hI.words.alloc _).setRow_other _ _ oA,pL (nh hI.only _) (by rw [<-HH.out];omega) _⟩,hV0.setRow _⟩ ?_;clear hI hhash hV hV0;rintro w5 ⟨hI,hV⟩;have hhash:=hI.hash;go_wp2_with (refine dk rfl 268 Ao _ rfl rfl hhash HP2.out (cM _ _) ?_);clear hhash;go_loopg [98] 64 (Bk4 w g H V h r n u)
     case atStart=>exact ⟨0,oA,rfl,hI,hV⟩
     case round=>
      clear hI hV;obtain ⟨t,hf,rfl,hI,hV⟩:=hrel;by_cases ht:t<64
      .have tt:decide ((t:Int)<64)=true:=soA;have htI:(t:Int)<64:=oA;have HF:=Hd hf;clear hf;obtain ⟨v,hv⟩:=Le (vs h u t);rw [<-hv] at hV;have HV:=Hd hv;clear hv;have hix:∀W,(Instr.index 268 (.agg (vL 64 fun j=>wv (kwd j)).toArray) (.int .i64 (t:Int))).run prog W= .ok (.int .u32 (U32 (kwd t))) W:=OG (fun j=>wv (kwd j)) t ht;have C0:∀W,Old wr.drew W->W.cell? ⟨V,0,none⟩=some (.int .u32 (U32 (v 0))):=fun W h=>(hV.drew.old h).atV oA rfl;have C1:∀W,Old wr.drew W->W.cell? ⟨V,1,none⟩=some (.int .u32 (U32 (v 1))):=fun W h=>(hV.drew.old h).atV oA rfl;have C2:∀W,Old wr.drew W->W.cell? ⟨V,2,none⟩=some (.int .u32 (U32 (v 2))):=fun W h=>(hV.drew.old h).atV oA rfl;have C3:∀W,Old wr.drew W->W.cell? ⟨V,3,none⟩=some (.int .u32 (U32 (v 3))):=fun W h=>(hV.drew.old h).atV oA rfl;have C4:∀W,Old wr.drew W->W.cell? ⟨V,4,none⟩=some (.int .u32 (U32 (v 4))):=fun W h=>(hV.drew.old h).atV oA rfl;have C5:∀W,Old wr.drew W->W.cell? ⟨V,5,none⟩=some (.int .u32 (U32 (v 5))):=fun W h=>(hV.drew.old h).atV oA rfl;have C6:∀W,Old wr.drew W->W.cell? ⟨V,6,none⟩=some (.int .u32 (U32 (v 6))):=fun W h=>(hV.drew.old h).atV oA rfl;have C7:∀W,Old wr.drew W->W.cell? ⟨V,7,none⟩=some (.int .u32 (U32 (v 7))):=fun W h=>(hV.drew.old h).atV oA rfl;have CW:∀W,Old wr.drew W->W.cell? ⟨H,t,none⟩=some (.int .u32 (U32 (u t))):=fun W h=>(hI.words.drew.old h).atV ht rfl;have D0:∀W,Old wr.drew.drew W->W.cell? ⟨V,0,none⟩=some (.int .u32 (U32 (v 0))):=fun W h=>(hV.drew.drew.old h).atV oA rfl;have D1:∀W,Old wr.drew.drew W->W.cell? ⟨V,1,none⟩=some (.int .u32 (U32 (v 1))):=fun W h=>(hV.drew.drew.old h).atV oA rfl;have D2:∀W,Old wr.drew.drew W->W.cell? ⟨V,2,none⟩=some (.int .u32 (U32 (v 2))):=fun W h=>(hV.drew.drew.old h).atV oA rfl;go_wp2_with fail;clear hix;refine aA (0::1::2::3::4::6::7::8::11::12::13::17::18::19::20::21::22::23::24::25::26::27::28::30::32::33::34::5::9::10::14::15::16::29::31::35::36::[]) krA krA cdA ?_
       repeat (first|refine lsA ?_|refine lqA ?_)
       refine bw rfl rfl rfA (fun K hK=> ?_);go_wp2_with fail;refine (jb (v 4) 6 6 rfl dcA _).mono ?_;rintro e w' ⟨rfl,rfl⟩;go_wp2_with fail;refine hK _ _ (Old.refl _) ?_;clear hK K
       repeat (first|refine lsA ?_|refine lqA ?_)
       refine bw rfl rfl rfA (fun K hK=> ?_);go_wp2_with fail;refine (jb (v 4) 11 11 rfl dcA _).mono ?_;rintro e w' ⟨rfl,rfl⟩;go_wp2_with fail;refine hK _ _ (Old.refl _) ?_;clear hK K
       repeat (first|refine lsA ?_|refine lqA ?_)
       refine bw rfl rfl rfA (fun K hK=> ?_);go_wp2_with fail;refine (jb (v 4) 25 25 rfl dcA _).mono ?_;rintro e w' ⟨rfl,rfl⟩;go_wp2_with fail;refine hK _ _ (Old.refl _) ?_;clear hK K
       repeat (first|refine lsA ?_|refine lqA ?_)
       refine bO ?_;clear C0 C1 C2 C3 C4 C5 C6 C7 CW;go_wp2_with fail;refine aA (0::1::2::4::5::6::9::10::11::14::15::16::17::18::19::20::21::22::23::24::25::26::27::28::29::30::3::7::8::12::13::31::32::[]) krA krA cdA ?_
       repeat (first|refine lsA ?_|refine lqA ?_)
       refine bw rfl rfl rfA (fun K hK=> ?_);go_wp2_with fail;refine (jb (v 0) 2 2 rfl dcA _).mono ?_;rintro e w' ⟨rfl,rfl⟩;go_wp2_with fail;refine hK _ _ (Old.refl _) ?_;clear hK K
       repeat (first|refine lsA ?_|refine lqA ?_)
       refine bw rfl rfl rfA (fun K hK=> ?_);go_wp2_with fail;refine (jb (v 0) 13 13 rfl dcA _).mono ?_;rintro e w' ⟨rfl,rfl⟩;go_wp2_with fail;refine hK _ _ (Old.refl _) ?_;clear hK K
       repeat (first|refine lsA ?_|refine lqA ?_)
       refine bw rfl rfl rfA (fun K hK=> ?_);go_wp2_with fail;refine (jb (v 0) 22 22 rfl dcA _).mono ?_;rintro e w' ⟨rfl,rfl⟩;go_wp2_with fail;refine hK _ _ (Old.refl _) ?_;clear hK K
       repeat (first|refine lsA ?_|refine lqA ?_)
       refine bO ?_;clear D0 D1 D2;go_wp2_with fail
       (try clear h);have q1:=OQ V;have q2:=OP V;refine cj V (.step 0 (.step 1 (.step 2 .done))) krA krA cdA ?_
       repeat (first|refine tsA ?_|refine tqA ?_)
       refine an rfl rfl rfA (fun K hK=> ?_);refine gF (.tmp 170) (.tmp 171) 271 271 rfl underlying271 jB rfl rfl hV.drew.drew.drew (cs:=vL 7 fun j=>wv (v j)) (by rw [cM];rfl) (fun j x hx=> ?_) (by rw [cM,ax];omega) (by intro x hx;obtain ⟨_,_,rfl⟩:=VY.1 hx;rfl) ?_
       .have hj:j<7:=(by have:=(Vg.1 hx).1;rwa [cM] at this);rw [Kz _ hj] at hx;rw [Vs,<-hx];exact hV.drew.drew.drew.atV oA (by rw [VS])
       refine hK _ _ (But.setRow _ _) ?_;clear hK K q1 q2;refine ap ?_;have hsp:cD (vA 8 fun j=>wv (v j)) 1 (vL 7 fun j=>wv (v j)).toArray=vA 8 fun j=>wv (if j=0 then v 0 else v (j-1)):=by
        rw [show (vL 7 fun j=>wv (v j)).toArray=vA 7 fun j=>wv (v j) from rfl,kg _ _ oA];refine AL fun j hj=> ?_;by_cases e:j=0
        .subst e;rfl
        .rw [if_pos ⟨oA,oA⟩,if_neg e]
       rw [hsp];clear hsp;refine jI (fun W0=>JS w g H h r n u W0/\Blk W0 V (vA 8 fun j=>wv (if j=0 then v 0 else v (j-1))) 267) ⟨⟨(hI.hash.drew.drew.drew).setRow_other _ _ oA,(hI.words.drew.drew.drew).setRow_other _ _ oA,pL (iC (iC (iC hI.only))) (by rw [<-HH.out];omega) _⟩,hV.drew.drew.drew.setRow _⟩ ?_;clear hI hV;rintro w6 ⟨hI,hV⟩;have c4:w6.cell? ⟨V,4,none⟩=some (.int .u32 (U32 (v 3))):=hV.atV oA rfl;have c0:w6.cell? ⟨V,0,none⟩=some (.int .u32 (U32 (v 0))):=hV.atV oA rfl;have f0:=hV.free;go_wp2_with fail;clear c4 c0 f0;go_roundg (gk-1)
       case rel=>
        have hf:=HF.out;refine ⟨t+1,oA,gnA,⟨(hI.hash.other _ _ (by show g≠V;omega)).other _ _ (by show g≠V;omega),(hI.words.other _ _ (by show H≠V;omega)).other _ _ (by show H≠V;omega),ot (ot hI.only (by rw [<-HH.out];omega) _) (by rw [<-HH.out];omega) _⟩,?_⟩;refine ((hV.setV oA _).setV oA _).ofV fun j hj=> ?_;rw [vs,<-HV.out];unfold rd uu xx;by_cases e0:j=0
        .subst e0;rfl
        .by_cases e4:j=4
         .subst e4;rfl
         .simp only [if_neg e0,if_neg e4]
       case measure=>have hf:=HF.out;omega
      .obtain rfl:t=64:=oA;have tt:decide (((64:Nat):Int)<64)=false:=skA;clear hf;go_wp2_with (refine am rfl 267 xh _ rfl rfl hV (ax _ _) ?_);have hR:Bk5 w g h r n u 8 (.int .i64 0) wr:=⟨0,oA,rfl,hI.hash,hI.only⟩;clear hI hV;go_loopg [184] 8 (Bk5 w g h r n u)
       case atStart=>exact hR
       case round=>
        clear hR;obtain ⟨t,hf,rfl,hB,ho⟩:=hrel;by_cases ht:t<8
        .have tt:decide ((t:Int)<8)=true:=soA;have htI:(t:Int)<8:=oA;have HF:=Hd hf;clear hf;have hix:∀W,(Instr.index 267 (.agg (vA 8 fun j=>wv (vs h u 64 j))) (.int .i64 (t:Int))).run prog W= .ok (.int .u32 (U32 (vs h u 64 t))) W:=idx8 (fun j=>wv (vs h u 64 j)) t ht;have C1:∀W,Old wr.drew W->W.cell? ⟨g,t,none⟩=some (.int .u32 (U32 (h t))):=fun W hW=>(hB.drew.old hW).atV oA (by rw [Fa _ _ _ ht,if_neg oA]);go_wp2_with fail;clear hix;refine aj true Old Old.refl Old.trans (.step 0 (.step 1 (.step 2 (.step 3 (.step 4 (.step 5 (.step 6 (.step 7 (.step 8 (.step 9 (.step 10 (.step 11 .done)))))))))))) krA krA cdA ?_
         repeat (first|refine tsA ?_|refine tqA ?_)
         have hd:=hB.drew;have f3:=hd.free;have c3:=hd.atV (show t<74 by omega) rfl;refine az rfl rfl rfA (fun K hK=> ?_);go_wp2_with fail;refine ap ?_;clear f3 c3;go_wp2_with fail;go_roundg (gk-1)
         case rel=>
          have hf:=HF.out;refine ⟨t+1,oA,gnA,?_,fR (iC ho) t _⟩;refine (hd.setV oA _).ofV fun j _=> ?_;by_cases e:j=t
          .subst e;rw [if_pos rfl,Fa _ _ _ ht,if_pos oA]
          .rw [if_neg e];unfold hcs;by_cases e2:j<8
           .rw [if_pos e2,if_pos e2];show wv (if j<t then h j+vs h u 64 j else h j)=wv (if j<t+1 then h j+vs h u 64 j else h j);by_cases e3:j<t
            .rw [if_pos e3,if_pos oA]
            .rw [if_neg e3,if_neg oA]
           .rw [if_neg e2,if_neg e2]
         case measure=>have hf:=HF.out;omega
        .obtain rfl:t=8:=oA;have tt:decide (((8:Nat):Int)<8)=false:=skA;clear hf;go_wp2_with fail;go_end0;refine ⟨rfl,hB.ofV fun j _=> ?_,ho⟩;unfold hcs;by_cases e2:j<8
         .rw [if_pos e2,if_pos e2];show wv (if j<8 then h j+vs h u 64 j else h j)=wv (cmp h (wd m 0) j);rw [if_pos e2,GA (w':=wd m 0) HU.out (fun t ht=>(Wn HW.out t).trans (if_pos ht)) j e2]
         .rw [if_neg e2,if_neg e2]
end
section
open Go.RowKit
theorem dK:bu prog 22 5 1 1:=bu.mk (z:= .int .u8 0) underlying22 krA rfl oA
theorem jk:(Tryz.prog.info? 5).map (·.size)=some 1:=by kernel_rfl
structure HsI (w:World) (B g:Nat) (l:List UInt8) (i:Nat) (a:Option Addr) (n c:Nat):Prop where
 hash:Blk w g (vA 74 (hcs (stt l i) (.slice a n c) (.int .u64 (l.length:Int)))) 270
 row:Mid w B 5 a n c ((l.drop (64*i)).map bv)
 lt:l.length<140737488355000
def cG (w:World) (B g:Nat) (l:List UInt8) (a:Option Addr) (n c:Nat):Prop:=HsI w B g l (l.length/64) a n c
structure oO (w w':World) (g:Nat) (row:Option Nat):Prop where
 os:w'.os=w.os
 tape:w'.tape=w.tape
 output:w'.output=w.output
 size:w.heap.size<=w'.heap.size
 block:∀b,b<w.heap.size->b≠g->row≠some b->w'.heap[b]? =w.heap[b]?
theorem oO.refl (w:World) (g:Nat) (row:Option Nat):oO w w g row:=⟨rfl,rfl,rfl,Lt _,fun _ _ _ _=>rfl⟩
theorem oO.only {w w1 w2:World} {g:Nat} {row:Option Nat} (h:oO w w1 g row) (ho:w1.grownBy w2 (some g)):oO w w2 g row:=
 ⟨ho.os.trans h.os,ho.tape.trans h.tape,ho.output.trans h.output,At h.size ho.size,fun b hb hg hr=>(ho.block b (VF hb h.size) (by simpa using hg)).trans (h.block b hb hg hr)⟩
theorem oO.grown {w w1 w2:World} {g:Nat} {row row':Option Nat} (h:oO w w1 g row) (ho:w1.grownBy w2 row') (hr:row'=none\/row'=row\/∃b,row'=some b/\w.heap.size<=b):oO w w2 g row:=
 ⟨ho.os.trans h.os,ho.tape.trans h.tape,ho.output.trans h.output,At h.size ho.size,fun b hb hg hrow=>(ho.block b (VF hb h.size) (by
  rcases hr with rfl|rfl|⟨b',rfl,hb'⟩
  .simp
  .exact fun e=>hrow e.symm
  .simp;omega)).trans (h.block b hb hg hrow)⟩
theorem oO.below {w w':World} {B g:Nat} {row:Option Nat} (h:oO w w' g row) (hg:B<=g) (hr:∀b,row=some b->B<=b) (hB:B<=w.heap.size):Below B w w':=
 ⟨h.os,h.tape,h.output,h.size,fun b hb=>h.block b oA oA (fun e=>by have:=hr b e;omega)⟩
theorem oO.blk {w w':World} {g:Nat} {row:Option Nat} (h:oO w w' g row) {b:Nat} {cs:Array Value} {t:TypeId} (hb:Blk w b cs t) (hg:b≠g) (hr:row≠some b):Blk w' b cs t:=(h.block b hb.lt hg hr).trans hb
theorem DQ {l b:List UInt8} {i:Nat} (h:64*i<=l.length):∀j,j<8->stt (l++b) i j=stt l i j:=
 FY i fun k hk=>by
  unfold byt;rw [VX,VX,Vm oA]
theorem Gq {h h':Nat->BitVec 32} {r n:Value} (e:∀j,j<8->h j=h' j) (j:Nat):hcs h r n j=hcs h' r n j:=by
 unfold hcs;by_cases hj:j<8
 .rw [if_pos hj,if_pos hj,e j hj]
 .rw [if_neg hj,if_neg hj]
theorem tf (h:Nat->BitVec 32) (r n v:Value) (j:Nat):(if j=8 then v else hcs h r n j)=hcs h v n j:=by
 unfold hcs;by_cases e:j=8
 .subst e;simp
 .rw [if_neg e];by_cases hj:j<8
  .rw [if_pos hj,if_pos hj]
  .rw [if_neg hj,if_neg hj,if_neg e,if_neg e]
theorem EZ (h:Nat->BitVec 32) (r n v:Value) (j:Nat):(if j=9 then v else hcs h r n j)=hcs h r v j:=by
 unfold hcs;by_cases e:j=9
 .subst e;simp
 .rw [if_neg e];by_cases hj:j<8
  .rw [if_pos hj,if_pos hj]
  .rw [if_neg hj,if_neg hj];by_cases h8:j=8
   .rw [if_pos h8,if_pos h8]
   .rw [if_neg h8,if_neg h8,if_neg e,if_neg e]
theorem wN (h:Nat->BitVec 32) (r n:Value):hcs h r n 8=r:=by simp [hcs]
theorem Lm (h:Nat->BitVec 32) (r n:Value):hcs h r n 9=n:=by simp [hcs]
def Wr1 (w:World) (B g:Nat) (all:List UInt8) (row:Option Nat) (f:Nat) (wr:World):Prop:=
 ∃(i:Nat) (a:Option Addr) (n c:Nat),f+i=all.length/64/\n+64*i=all.length/\HsI wr B g all i a n c/\oO w wr g row/\(bE a c=none\/bE a c=row\/∃b,bE a c=some b/\w.heap.size<=b)
def Md (w:World) (B g:Nat) (all:List UInt8) (row:Option Nat) (e:Ending) (w':World):Prop:=
 ∃(a:Option Addr) (n c:Nat),e= .returned (.int .i64 0)/\cG w' B g all a n c/\oO w w' g row/\(bE a c=none\/bE a c=row\/∃b,bE a c=some b/\w.heap.size<=b)
theorem IW {h:Nat->BitVec 32} {a:Option Addr} {n c:Nat} {N:Int} {j:Nat} {x:UInt8}:hcs h (.slice a n c) (.int .u64 N) j≠bv x:=by
 unfold hcs bv wv;by_cases h1:j<8
 .rw [if_pos h1];simp
 .rw [if_neg h1];by_cases h2:j=8
  .rw [if_pos h2];simp
  .rw [if_neg h2];by_cases h3:j=9
   .rw [if_pos h3];simp
   .rw [if_neg h3];simp
theorem zR {w:World} {g b o:Nat} {h:Nat->BitVec 32} {a:Option Addr} {n c:Nat} {N:Int} {l:List UInt8} (hg:Blk w g (vA 74 (hcs h (.slice a n c) (.int .u64 N))) 270) (hb:ah w (some ⟨b,o,none⟩) l) (hl:0<l.length):b≠g:=by
 rintro rfl;obtain ⟨b',o',e,hc⟩:=hb 0 (by simpa using hl);cases e;rw [hg.rule] at hc;by_cases hj:o+0<74
 .rw [lW _ hj] at hc;simp only [Vn,Wz] at hc;exact IW hc
 .rw [AK _ oA] at hc;cases hc
theorem ah.hash_set {w:World} {g:Nat} {h:Nat->BitVec 32} {a:Option Addr} {n c:Nat} {N:Int} {ba:Option Addr} {l:List UInt8} (hb:ah w ba l) (hg:Blk w g (vA 74 (hcs h (.slice a n c) (.int .u64 N))) 270) (i:Nat) (v:Value):ah (w.setCell ⟨g,i,none⟩ v) ba l:=by
 intro j hj;obtain ⟨b,o,rfl,hc⟩:=hb j hj;have hne:=zR hg hb (by simp at hj;omega);exact ⟨b,o,rfl,(VJ (a:=⟨b,o+j,none⟩) (VU w ⟨g,i,none⟩ b v hne)).trans hc⟩
theorem Br {w:World} {B g:Nat} {a:Option Addr} {n c:Nat} {vs:List Value} {cs:Array Value} (hm:Mid w B 5 a n c vs) (hg:Blk w g cs 270):bE a c≠some g:=fun e=>by
 obtain ⟨_,_,cur,hcur⟩:=hm.lt e;exact Blk.ne hcur hg dcA rfl
theorem gM (B g:Nat) (l b:List UInt8) (a:Option Addr) (n c:Nat) (ba:Option Addr) (bn bc:Nat) (w:World) (hH:cG w B g l a n c) (hb:ah w ba b) (hbn:b.length=bn) (hlt:l.length+bn<140737488355000) (hB:B<=w.heap.size):
  Calls prog 185 #[.pointer (some ⟨g,0,none⟩),.slice ba bn bc] w (Md w B g (l++b) (bE a c)):=by
 have hn:n+64*(l.length/64)=l.length:=(by have:=hH.row.len;rw [<-this];simp;omega);have hc8:w.cell? ⟨g,8,none⟩=some (.slice a n c):=hH.hash.atV oA (wN _ _ _);have hc9:w.cell? ⟨g,9,none⟩=some (.int .u64 (l.length:Int)):=hH.hash.atV oA (Lm _ _ _);have hfr:=hH.hash.free;obtain ⟨L,hL⟩:=Le l.length;obtain ⟨k0,hk0⟩:=Le (l.length/64);have hh:=hH.hash;have hrow:=hH.row;rw [<-hk0] at hh hrow;rw [<-hL] at hc9 hlt hn hh hk0;have hgl:=hh.lt;have hset:Blk (w.setCell ⟨g,9,none⟩ (.int .u64 ((L:Int)+(bn:Int)))) g (vA 74 (hcs (stt l k0) (.slice a n c) (.int .u64 ((L:Int)+(bn:Int))))) 270:=(hh.setV oA _).ofV fun j _=>EZ _ _ _ _ j;have hrow9:=hrow.setCell hh dcA 9 (.int .u64 ((L:Int)+(bn:Int)));have hb9:=hb.hash_set hh 9 (.int .u64 ((L:Int)+(bn:Int)));have hs9:(w.setCell ⟨g,9,none⟩ (.int .u64 ((L:Int)+(bn:Int)))).heap.size=w.heap.size:=skA;have HLL:=Hd hL;have HN:=Hd hn;have HBN:=Hd hbn;have HK0:=Hd hk0;have HS9:=Hd hs9;have hnb:n<=L:=oA;clear hL hn hbn hk0 hs9;go_enter func185,ntmps185;go_wp2_with (at_builtin;refine df rfl (.tmp 21) (.tmp 22) 22 rfl dK rfl hrow9 rfl hb9 (by rw [lmA];exact HBN.out) (cO _) mxA oA (by rw [HS9.out];exact hB) ?_);intro a2 c2 w2 hm2 hg2 hr2;have hfr2:oO w w2 g (bE a c):=((oO.refl w g _).only (fR (Vv _ _) 9 _)).grown hg2 (.inr (.inl rfl));have hh2:=hset.grown hg2 (Br hrow9 hset);have hr2':bE a2 c2=none\/bE a2 c2=bE a c\/∃q,bE a2 c2=some q/\w.heap.size<=q:= .inr hr2;have hfz:=hh2.free;have hcl:w2.cell? ⟨g,8,none⟩=some (.slice a n c):=hh2.atV oA (wN _ _ _);clear hset hrow9 hb9 hg2 hr2 hH hh hrow hc8 hc9 hfr;go_wp2_with fail;clear hfz hcl;have hlen:(l++b).length=L+bn:=(by rw [laA,HBN.out,<-HLL.out]);have hstart:HsI (w2.setCell ⟨g,8,none⟩ (.slice a2 (n+bn) c2)) B g (l++b) k0 a2 (n+bn) c2:=by
  have hk:=HK0.out;have hL:=HLL.out;refine ⟨(hh2.setV oA _).ofV fun j _=> ?_,?_,by rw [hlen];omega⟩
  .rw [tf,hlen];refine (Gq (h':=stt (l++b) k0) (fun j hj=>(DQ (b:=b) oA j hj).symm) j).trans ?_;rw [show ((L+bn:Nat):Int)=(L:Int)+(bn:Int) by omega]
  .rw [Xd oA,VG];rw [<-List.map_drop] at hm2;exact hm2.setCell hh2 dcA 8 _
 have hfr3:=hfr2.only (fR (Vv w2 _) 8 (.slice a2 (n+bn) c2));have hst:Wr1 w B g (l++b) (bE a c) ((l++b).length/64-k0) (w2.setCell ⟨g,8,none⟩ (.slice a2 (n+bn) c2)):=by
  have hk:=HK0.out;have hn:=HN.out;exact ⟨k0,a2,n+bn,c2,by rw [hlen];omega,by rw [hlen,<-hn,<-hk];omega,hstart,hfr3,hr2'⟩
 clear hstart hfr3 hfr2 hh2 hm2 hr2';obtain ⟨row,hrw⟩:=Le (bE a c);rw [<-hrw] at hst;have HRW:=Hd hrw;obtain ⟨all,hall⟩:=Le (l++b);rw [<-hall] at hst hlen;have HAL:=Hd hall;have hlen2:all.length<140737488355000:=oA;have HALL:=Hd hlen;clear hlen hrw hall HLL HN HBN HK0 HS9 hnb hlt;obtain ⟨f0,hf0⟩:=Le (all.length/64-k0);rw [<-hf0] at hst;clear hf0;go_loopg [31] f0 (fun f _ wr=>Wr1 w B g all row f wr)
 case atStart=>exact hst
 case round=>
  clear hst;obtain ⟨i,a,n,c,hf,hni,hI,hfr,hr⟩:=hrel;have hcl:wr.cell? ⟨g,8,none⟩=some (.slice a n c):=hI.hash.atV oA (wN _ _ _);have hnc:=hI.row.le;have hcm:=hI.row.max;unfold maxLen at hcm;have HF:=Hd hf;have HNI:=Hd hni;clear hf;by_cases h64:64<=n
  .have t1:decide ((64:Int)<=(n:Int))=true:=soA;have hI1:(64:Int)<=(c:Int):=oA;have hI2:(64:Int)<=(n:Int):=oA;obtain ⟨r,o,hro⟩:∃r o,a=some ⟨r,o,none⟩:=by
    obtain ⟨r,o,_,h1,_⟩:=hI.row.row oA;exact ⟨r,o,h1⟩
   subst hro;have hcut:∀W,(Instr.sliceAt 22 (.slice (some ⟨r,o,none⟩) n c) (some (.int .i64 64)) none none).run prog W= .ok (.slice (kP (some ⟨r,o,none⟩) c 64) (n-64) (c-64)) W:=nD underlying22 jk _ n c 64 h64;have HCUT:=Hd hcut;clear hcut hni;have hread:ah wr (some ⟨r,o,none⟩) ((all.drop (64*i)).take 64):=by
    have:=hI.row.read.take 64;rwa [<-WE] at this
   have hml:((all.drop (64*i)).take 64).length=64:=by
    have:=hI.row.len;rw [lmA] at this;rw [ltA,this];omega
   have hrg:r≠g:=by
    have:=Br hI.row hI.hash;rw [iA oA] at this;simpa using this
   go_wp2_with fail;refine (De g (stt all i) _ _ _ c _ wr hI.hash hread hml oA mxA (fun b o e=>by cases e;exact hrg)).mono ?_;rintro e w4 ⟨rfl,hh4,ho4⟩;have hrow4:Mid w4 B 5 (some ⟨r,o,none⟩) n c ((all.drop (64*i)).map bv):=hI.row.keep fun q hq=>by
    rw [iA oA] at hq;cases hq;exact ho4.block r (hI.row.lt (iA oA)).2.1 (by simpa using hrg)
   have hcl4:w4.cell? ⟨g,8,none⟩=some (.slice (some ⟨r,o,none⟩) n c):=hh4.atV oA (wN _ _ _);have hfz4:=hh4.free;have hfr4:=hfr.only ho4;have hcut:=HCUT.out;have hstt:∀j,j<8->cmp (stt all i) (wd ((all.drop (64*i)).take 64) 0) j=stt all (i+1) j:=fun j hj=>by
    rw [stt];exact yE (fun _ _=>rfl) (fun t ht=>Ha (fun q hq=>by
     unfold byt;rw [VS,VX,VX,WK hq,WD]) ht) j hj
   have HST:=Hd hstt;clear hstt hcl hI hfr hread hml ho4;go_wp2_with fail;clear hcl4 hfz4 hcut;go_roundg (gk-1)
   case rel=>
    have hf:=HF.out;have hni:=HNI.out;refine ⟨i+1,kP (some ⟨r,o,none⟩) c 64,n-64,c-64,oA,oA,⟨?_,?_,hlen2⟩,hfr4.only (fR (Vv w4 _) 8 _),?_⟩
    .refine (hh4.setV oA _).ofV fun j _=> ?_;rw [tf];exact Gq HST.out j
    .have:=(hrow4.cut 64 h64).setCell hh4 dcA 8 (.slice (kP (some ⟨r,o,none⟩) c 64) (n-64) (c-64));rw [<-List.map_drop,Wu] at this;exact this
    .rcases xM (some ⟨r,o,none⟩) c 64 with h1|h1
     .exact .inl h1
     .rw [h1];exact hr
   case measure=>have hf:=HF.out;have hni:=HNI.out;omega
  .have t1:decide ((64:Int)<=(n:Int))=false:=soA;go_wp2_with fail;go_ret;have hi:i=all.length/64:=oA;rw [<-HAL.out,<-HRW.out];exact ⟨a,n,c,rfl,by unfold cG;rw [<-hi];exact hI,hfr,hr⟩
end
end Go.Proofs.YtioigihakjlopaaGreat
