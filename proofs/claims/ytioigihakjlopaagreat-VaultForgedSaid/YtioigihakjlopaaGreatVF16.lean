import Derived.Test.YtioigihakjlopaaGreatVF15
namespace Go.Proofs.YtioigihakjlopaaGreat
open Go.Proofs.Tryz
set_option linter.unusedVariables false
set_option linter.unusedSimpArgs false
set_option maxHeartbeats 16000000
set_option maxRecDepth 100000
section
open Go.RowKit
def mcs (hi ho:Nat):Array Value:= #[.pointer (some ⟨hi,0,none⟩),.pointer (some ⟨ho,0,none⟩)]
structure qy (w:World) (B M:Nat) (k l:List UInt8) (hi ho:Nat) (a:Option Addr) (n c:Nat) (a2:Option Addr) (n2 c2:Nat):Prop where
 mac:Blk w M (mcs hi ho) 256
 inn:cG w B hi (hin k l) a n c
 out:cG w B ho (sK (bkey k) 92) a2 n2 c2
 ne:hi≠ho
 row:bE a c=none\/bE a c≠bE a2 c2
 leM:B<=M
 leI:B<=hi
 leO:B<=ho
def Aw (w:World) (k:List UInt8) (e:Ending) (w':World):Prop:=
 ∃M hi ho a n c a2 n2 c2,e= .returned (.pointer (some ⟨M,0,none⟩))/\qy w' w.heap.size M k [] hi ho a n c a2 n2 c2/\Below w.heap.size w w'
structure MnI (w:World) (H M hi ho kb:Nat) (k l:List UInt8) (a:Option Addr) (n c:Nat) (wr:World):Prop where
 mac:Blk wr M (mcs hi ho) 256
 inn:cG wr H hi l a n c
 out:cG wr H ho [] none 0 0
 key:Blk wr kb (vA 64 fun i=>bv (bkey k i)) 257
 below:Below H w wr
theorem cG.fr {w w':World} {B g g2:Nat} {l:List UInt8} {a:Option Addr} {n c:Nat} {row:Option Nat} (h:cG w B g l a n c) (hfr:oO w w' g2 row) (hne:g≠g2) {cs:Array Value} (hG:Blk w g2 cs 270)
  (hr:(∀b,row=some b->bE a c≠some b/\g≠b)\/row=none):cG w' B g l a n c:=by
 refine ⟨hfr.blk h.hash hne ?_,h.row.keep fun r hrr=> ?_,h.lt⟩
 .intro e;rcases hr with hr|hr
  .exact (hr g e).2 rfl
  .rw [hr] at e;cases e
 .obtain ⟨_,hlt,cur,hcur⟩:=h.row.lt hrr;refine hfr.block r hlt (Blk.ne hcur hG dcA) fun e=> ?_;rcases hr with hr|hr
  .exact (hr r e).1 hrr
  .rw [hr] at e;cases e
theorem oO.but {w w':World} {g:Nat} (h:oO w w' g none):But g w w':=⟨h.size,fun b hb hne=>h.block b hb hne skA⟩
theorem yl (k:List UInt8) (a:Option Addr) (len cap:Nat) (w:World) (hm:ah w a k) (hl:k.length=len) (hmax:len<140737488353000):
  Calls prog 164 #[.slice a len cap] w (Aw w k):=by
 obtain ⟨H,hH⟩:=Le w.heap.size;have HH:=Hd hH;have HL:=Hd hl;clear hl hH;go_enter func164,ntmps164;go_wp2_with fail;refine (pu _).mono ?_;rintro e w1 ⟨hi,rfl,hg1,hB1,hb1⟩;go_wp2_with fail;refine (pu _).mono ?_;rintro e w2 ⟨ho,rfl,hg2,hB2,hb2⟩;go_upto_region 2 with fail;have hM0:=Blk.new w2 (mcs hi ho) 256;obtain ⟨M,hM⟩:=Le w2.heap.size;rw [<-hM] at hM0⊢;have hs1:=hb1.size;have hs2:=hb2.size;have hi1:=hB1.lt;have ho1:=hB2.lt;refine af (fun W0=>Blk W0 M (mcs hi ho) 256/\cG W0 H hi [] none 0 0/\cG W0 H ho [] none 0 0/\ah W0 a k/\Below H w W0) ⟨hM0,cG.nil ((hB1.old hb2).alloc _) H,cG.nil (hB2.alloc _) H,((hm.below hb1).below hb2).alloc _,by rw [HH.out];exact (ae hb1 hb2).alloc oA _⟩ ?_;have hHi:H<=hi:=(by rw [HH.out];exact hg1);have hio:hi<ho:=oA;have hoM:ho<M:=oA;clear hM0 hM hs1 hs2 hi1 ho1 hB1 hB2 hb1 hb2 hg1 hg2 hm;rintro w3 ⟨hM,hI,hO,hm,hb⟩;go_wp2_with fail;refine (zJ k a len cap _ hm HL.out hmax).mono ?_;rintro e w4 ⟨rfl,hb4⟩;have hMl:=hM.lt;have hb04:=hb.trans (hb4.mono oA);have hM4:=hM.old hb4;have hI4:=hI.old hb4;have hO4:=hO.old hb4;clear hM hI hO hm hb;go_upto_region 3 with (refine aa rfl 257 jO (.tmp 4) _ (cells:=vA 64 fun i=>bv (bkey k i)) rfl rfl rfl (Blk.new _ _ _) (ax _ _) rfl (du fun _ _=>rfl) ?_);obtain ⟨kb,hkb⟩:=Le w4.heap.size;have hMk:M<kb:=(by have:=hM4.lt;omega);have hK0:=Blk.new w4 (vA 64 fun _=> .int .u8 0) 257;rw [<-hkb] at hK0⊢;refine af (fun W0=>MnI w H M hi ho kb k [] none 0 0 W0) ⟨(hM4.alloc _).setRow_other _ _ oA,(hI4.alloc _).setRow hK0 dcA dcA _,(hO4.alloc _).setRow hK0 dcA dcA _,hK0.setRow _,ag (hb04.alloc oA _) oA _⟩ ?_;clear hMl hb04 hM4 hI4 hO4 hK0 hkb hb4;rintro w5 hI;have C0:∀W,But hi w5.drew W->W.cell? ⟨M,0,none⟩=some (.pointer (some ⟨hi,0,none⟩)):=fun W hW=>(hI.mac.drew.but hW oA).cell rfl;refine cj hi (.step 0 (.step 1 (.step 2 (.step 3 (.step 4 (.step 5 (.step 6 (.step 7 .done)))))))) krA krA cdA ?_
 repeat (first|refine tsA ?_|refine tqA ?_)
 refine ci (v:= .agg (vA 64 fun i=>bv (bkey k i))) rfl rfl rfA (fun W hW=>aI 257 jO _ rfl rfl rfl (hI.key.drew.but hW oA).cells (cM _ _)) ?_;simp only [Act.put,sTA,List.set];refine an rfl rfl rfA (fun K hK=> ?_);go_wp2_with fail;refine (uL (bkey k) 54 54 rfl _).mono ?_;rintro e w6 ⟨g6,rfl,hg6,hr6,hb6⟩;go_wp2_with fail;refine hK _ _ (But.of hb6) ?_;clear hK K;refine an rfl rfl rfA (fun K hK=> ?_);go_wp2_with fail;have hb56:=((AT w5.heap.size w5).drew).trans hb6;have hI6:=hI.inn.old hb56;refine (gM H hi [] (sK (bkey k) 54) none 0 0 _ 64 64 _ hI6 hr6 (cK _ _) skA (by have:=hI6.hash.lt;omega)).mono ?_;rintro e w7 ⟨a7,n7,c7,rfl,hH7,hfr7,hr7⟩;go_wp2_with fail;refine hK _ _ (oO.but hfr7) ?_;clear hK K;refine ap ?_;have hs6:w5.heap.size<=w6.heap.size:=hb56.size;have hkl:=hI.key.lt;refine jI (fun W0=>MnI w H M hi ho kb k (sK (bkey k) 54) a7 n7 c7 W0/\(bE a7 c7=none\/∃b,bE a7 c7=some b/\b<W0.heap.size)) ⟨⟨hfr7.blk (hI.mac.old hb56) oA (by simp [bE]),hH7,cG.nil (hfr7.blk (hI.out.hash.old hb56) oA (by simp [bE])) H,hfr7.blk (hI.key.old hb56) oA (by simp [bE]),(hI.below.trans (hb56.mono oA)).trans (hfr7.below hHi (by simp [bE]) oA)⟩,?_⟩ ?_
 .rcases hr7 with h|h|⟨b,h,_⟩
  .exact .inl h
  .exact .inl h
  .exact .inr ⟨b,h,(hH7.row.lt h).2.1⟩
 clear hI hI6 hb6 hb56 hs6 hkl hfr7 hH7 hr7 hr6 C0;rintro w8 ⟨hI,hrow⟩;have HR:=Hd hrow;clear hrow;have C1:∀W,But ho w8.drew W->W.cell? ⟨M,1,none⟩=some (.pointer (some ⟨ho,0,none⟩)):=fun W hW=>(hI.mac.drew.but hW oA).cell rfl;go_upto_region 4 with fail;refine cj ho (.step 0 (.step 1 (.step 2 (.step 3 (.step 4 (.step 5 (.step 6 (.step 7 .done)))))))) krA krA cdA ?_
 repeat (first|refine tsA ?_|refine tqA ?_)
 refine ci (v:= .agg (vA 64 fun i=>bv (bkey k i))) rfl rfl rfA (fun W hW=>aI 257 jO _ rfl rfl rfl (hI.key.drew.but hW oA).cells (cM _ _)) ?_;simp only [Act.put,sTA,List.set];refine an rfl rfl rfA (fun K hK=> ?_);go_wp2_with fail;refine (uL (bkey k) 92 92 rfl _).mono ?_;rintro e w6 ⟨g6,rfl,hg6,hr6,hb6⟩;go_wp2_with fail;refine hK _ _ (But.of hb6) ?_;clear hK K;refine an rfl rfl rfA (fun K hK=> ?_);go_wp2_with fail;have hb56:=((AT w8.heap.size w8).drew).trans hb6;have hI6:=hI.out.old hb56;have hJ6:=hI.inn.old hb56;refine (gM H ho [] (sK (bkey k) 92) none 0 0 _ 64 64 _ hI6 hr6 (cK _ _) skA (by have:=hI6.hash.lt;omega)).mono ?_;rintro e w9 ⟨a9,n9,c9,rfl,hH9,hfr9,hr9⟩;go_wp2_with fail;refine hK _ _ (oO.but hfr9) ?_;clear hK K;refine ap ?_;have hs6:w8.heap.size<=w6.heap.size:=hb56.size;have hMl:=hI.mac.lt;have hJ9:=hJ6.fr hfr9 oA hI6.hash (.inr rfl);have hM9:=hfr9.blk (hI.mac.old hb56) oA (by simp [bE]);have hb9:=(hI.below.trans (hb56.mono oA)).trans (hfr9.below (show H<=ho by omega) (by simp [bE]) oA);have hrr:bE a7 c7=none\/bE a7 c7≠bE a9 c9:=by
  rcases HR.out with h|⟨b,h,hlt⟩
  .exact .inl h
  .refine .inr fun e=> ?_;rw [h] at e;rcases hr9 with h2|h2|⟨b2,h2,hge⟩
   .rw [h2] at e;cases e
   .rw [h2] at e;simp [bE] at e
   .rw [h2] at e;cases e;omega
 have hA:qy w9 H M k [] hi ho a7 n7 c7 a9 n9 c9:=⟨hM9,by rw [hin,Wq];exact hJ9,hH9,oA,hrr,oA,hHi,oA⟩;clear hI hI6 hJ6 hb6 hb56 hs6 hMl hJ9 hM9 hfr9 hH9 hr9 hrr hr6 C1;go_wp2_with fail;go_ret;rw [HH.out] at hA hb9;exact ⟨M,hi,ho,a7,n7,c7,a9,n9,c9,rfl,hA,hb9⟩
def Mt (w:World) (B M:Nat) (k l:List UInt8) (hi ho:Nat) (row:Option Nat) (a2:Option Addr) (n2 c2:Nat) (e:Ending) (w':World):Prop:=
 ∃a n c,e= .returned (.int .i64 0)/\qy w' B M k l hi ho a n c a2 n2 c2/\oO w w' hi row/\(bE a c=none\/bE a c=row\/∃b,bE a c=some b/\w.heap.size<=b)
theorem qy.old {w w':World} {B M:Nat} {k l:List UInt8} {hi ho:Nat} {a:Option Addr} {n c:Nat} {a2:Option Addr} {n2 c2:Nat} (h:qy w B M k l hi ho a n c a2 n2 c2) (hb:Below w.heap.size w w'):qy w' B M k l hi ho a n c a2 n2 c2:=
 ⟨h.mac.old hb,h.inn.old hb,h.out.old hb,h.ne,h.row,h.leM,h.leI,h.leO⟩
theorem kL (B M:Nat) (k l b:List UInt8) (hi ho:Nat) (a:Option Addr) (n c:Nat) (a2:Option Addr) (n2 c2:Nat) (ba:Option Addr) (len cap:Nat) (w:World) (hM:qy w B M k l hi ho a n c a2 n2 c2) (hb:ah w ba b) (hlen:b.length=len) (hl:l.length+len<140737488353000):
  Calls prog 165 #[.pointer (some ⟨M,0,none⟩),.slice ba len cap] w (Mt w B M k (l++b) hi ho (bE a c) a2 n2 c2):=by
 have c0:w.cell? ⟨M,0,none⟩=some (.pointer (some ⟨hi,0,none⟩)):=hM.mac.cell rfl;have HL:=Hd hlen;clear hlen;go_enter func165,ntmps165;go_wp2_with fail;clear c0;refine (gM B hi (hin k l) b a n c _ len cap w hM.inn hb HL.out (by rw [hin,laA,cK];omega) (by have:=hM.inn.hash.lt;have:=hM.leI;omega)).mono ?_;rintro e w1 ⟨a1,n1,c1,rfl,hH1,hfr1,hr1⟩;go_wp2_with fail;go_ret;have hrow:bE a c≠some M:=fun e=>by
  obtain ⟨_,_,cur,hcur⟩:=hM.inn.row.lt e;exact Blk.ne hcur hM.mac dcA rfl
 have hne:M≠hi:=Blk.ne hM.mac hM.inn.hash dcA;refine ⟨a1,n1,c1,rfl,⟨hfr1.blk hM.mac hne hrow,by rw [hin,<-VM];exact hH1,hM.out.fr hfr1 (Vf hM.ne) hM.inn.hash ?_,hM.ne,?_,hM.leM,hM.leI,hM.leO⟩,hfr1,hr1⟩
 .rcases hM.row with h|h
  .exact .inr h
  .refine .inl fun b hbr=>⟨fun e=>h (hbr.trans e.symm),fun e=> ?_⟩;obtain ⟨_,_,cur,hcur⟩:=hM.inn.row.lt hbr;exact Blk.ne hcur hM.out.hash dcA e.symm
 .rcases hr1 with h|h|⟨b',h,hge⟩
  .exact .inl h
  .rw [h];exact hM.row
  .refine .inr fun e=> ?_;rw [h] at e;have:=(hM.out.row.lt e.symm).2.1;omega
theorem yk (B M:Nat) (k l:List UInt8) (hi ho:Nat) (a:Option Addr) (n c:Nat) (a2:Option Addr) (n2 c2:Nat) (w:World) (hM:qy w B M k l hi ho a n c a2 n2 c2) (hl:l.length<140737488352000):
  Calls prog 167 #[.pointer (some ⟨M,0,none⟩)] w fun e w'=>e= .returned (.agg (mcA k l))/\Below w.heap.size w w':=by
 obtain ⟨H,hH⟩:=Le w.heap.size;have hR0:=Blk.new w (vA 32 fun _=> .int .u8 0) 170;rw [<-hH] at hR0⊢;go_enter func167,ntmps167;go_upto_region 1 with fail;rw [<-hH];refine af (fun W0=>Blk W0 H (vA 32 fun _=> .int .u8 0) 170/\qy W0 B M k l hi ho a n c a2 n2 c2/\Below H w W0) ⟨hR0,hM.old ((AT _ _).alloc (Lt _) _),by rw [hH];exact cL⟩ ?_;have HH:=Hd hH;clear hR0 hM hH;rintro w0 ⟨hR,hM,hb⟩;have c1:w0.cell? ⟨M,1,none⟩=some (.pointer (some ⟨ho,0,none⟩)):=hM.mac.cell rfl;have hRl:=hR.lt;go_wp2_with fail;refine (yD B ho _ a2 n2 c2 _ hM.out).mono ?_;rintro e w1 ⟨g,a3,c3,rfl,hg,hH1,hb1⟩;have hM1:=hM.old hb1;have hR1:=hR.old hb1;have hb01:=hb.trans (hb1.mono oA);have c0:w1.cell? ⟨M,0,none⟩=some (.pointer (some ⟨hi,0,none⟩)):=hM1.mac.cell rfl;have hs1:=hb1.size;have hH1:cG w1 (H+1) g _ _ _ _:=⟨hH1.hash,hH1.row.lower oA,hH1.lt⟩;clear c1 hM hb1 hR hb;go_wp2_with fail;refine (sZ B hi (hin k l) a n c _ hM1.inn (by rw [hin,laA,cK];omega)).mono ?_;rintro e w2 ⟨rfl,hb2⟩;have hR2:=hR1.old hb2;have hH2:=hH1.old hb2;have hb02:=hb01.trans (hb2.mono oA);have hs2:=hb2.size;have hgl:=hH1.hash.lt;clear c0 hM1 hR1 hH1 hb01 hb2;go_upto_region 5 with (refine aa rfl 170 fG (.tmp 4) _ (cells:=dgA (hin k l)) rfl rfl rfl (Blk.new _ _ _) (ax _ _) rfl (du fun _ _=>rfl) ?_);obtain ⟨K,hK⟩:=Le w2.heap.size;have hK0:=Blk.new w2 (vA 32 fun _=> .int .u8 0) 170;rw [<-hK] at hK0⊢;refine af (fun W0=>Blk W0 H (vA 32 fun _=> .int .u8 0) 170/\cG W0 (H+1) g (sK (bkey k) 92) a3 n2 c3/\Blk W0 K (dgA (hin k l)) 170/\Below H w W0) ⟨(hR2.alloc _).setRow_other _ _ oA,(hH2.alloc _).setRow hK0 dcA dcA _,hK0.setRow _,ag (hb02.alloc oA _) oA _⟩ ?_;have hgH:H<g:=oA;clear hR2 hH2 hb02 hK0 hK hs1 hs2 hgl hRl hg;rintro w3 ⟨hR,hH3,hK,hb⟩;have q2:=rR K;go_wp2_with fail;refine (gM (H+1) g (sK (bkey k) 92) (dgl (hin k l)) a3 n2 c3 _ 32 32 _ hH3 (rE hK) (cU _) (by rw [cK];omega) (by have:=hH3.hash.lt;omega)).mono ?_;rintro e w4 ⟨a4,n4,c4,rfl,hH4,hfr4,hr4⟩;have hrow:bE a3 c3≠some H:=fun e=>(by have:=(hH3.row.lt e).1;omega);have hR4:=hfr4.blk hR oA hrow;have hb4:=hb.trans (hfr4.below oA (fun b hb=>by have:=(hH3.row.lt hb).1;omega) (by have:=hR.lt;omega));clear hR hH3 hK hb q2 hfr4 hr4 hrow;go_wp2_with fail;refine (sZ (H+1) g (uR k l) a4 n4 c4 _ hH4 (by rw [uR,laA,cK,cU];omega)).mono ?_;rintro e w5 ⟨rfl,hb5⟩;have hR5:=hR4.old hb5
 have hb05:=hb4.trans (hb5.mono (by have:=hR4.lt;omega));go_wp2_with (refine aa rfl 170 fG (.tmp 2) _ (cells:=dgA (uR k l)) rfl rfl rfl hR5 (ax _ _) (ax _ _) (du fun _ _=>rfl) ?_);exact cv rfl fG rfl (hR5.setRow _) (ax _ _) rfl ⟨rfl,ag hb05 (Lt _) _⟩
theorem IA (k b:List UInt8) (ka:Option Addr) (kn kc:Nat) (ba:Option Addr) (bn bc:Nat) (w:World) (hk:ah w ka k) (hkl:k.length=kn) (hkm:kn<140737488352000) (hb:ah w ba b) (hbl:b.length=bn) (hbm:bn<140737488352000):
  Calls prog 143 #[.slice ka kn kc,.slice ba bn bc] w fun e w'=>e= .returned (.agg (mcA k b))/\Below w.heap.size w w':=by
 obtain ⟨H,hH⟩:=Le w.heap.size;have hR0:=Blk.new w (vA 32 fun _=> .int .u8 0) 170;rw [<-hH] at hR0⊢;have HK:=Hd hkl;have HB:=Hd hbl;clear hkl hbl;go_enter func143,ntmps143;go_upto_region 1 with fail;rw [<-hH];refine af (fun W0=>Blk W0 H (vA 32 fun _=> .int .u8 0) 170/\ah W0 ka k/\ah W0 ba b/\Below H w W0) ⟨hR0,hk.alloc _,hb.alloc _,by rw [hH];exact cL⟩ ?_;have HH:=Hd hH;clear hR0 hk hb hH;rintro w0 ⟨hR,hk,hbb,hb⟩;have hRl:=hR.lt;go_wp2_with fail;refine (yl k ka kn kc _ hk HK.out oA).mono ?_;rintro e w1 ⟨M,hi,ho,a,n,c,a2,n2,c2,rfl,hM1,hb1⟩;have hs1:=hb1.size;have hR1:=hR.old hb1;have hb01:=hb.trans (hb1.mono oA);have hbb1:=hbb.below hb1;clear hk hbb hb hR;go_wp2_with fail;refine (kL w0.heap.size M k [] b hi ho a n c a2 n2 c2 ba bn bc _ hM1 hbb1 HB.out soA).mono ?_;rintro e w2 ⟨a3,n3,c3,rfl,hM2,hfr2,hr2⟩;have hrow:bE a c≠some H:=fun e=>(by have:=(hM1.inn.row.lt e).1;omega);have hhi:=hM1.leI;have hR2:=hfr2.blk hR1 oA hrow;have hb02:=hb01.trans (hfr2.below oA (fun b hb=>by have:=(hM1.inn.row.lt hb).1;omega) oA);rw [Wf] at hM2;clear hR1 hb01 hbb1 hfr2 hr2 hrow hM1 hb1;go_wp2_with fail;refine (yk w0.heap.size M k b hi ho a3 n3 c3 a2 n2 c2 _ hM2 (by rw [HB.out];exact hbm)).mono ?_;rintro e w3 ⟨rfl,hb3⟩;have hR3:=hR2.old hb3;have hb03:=hb02.trans (hb3.mono (by have:=hR2.lt;omega));go_wp2_with (refine aa rfl 170 fG (.tmp 4) _ (cells:=mcA k b) rfl rfl rfl hR3 (ax _ _) (ax _ _) (du fun _ _=>rfl) ?_);exact cv rfl fG rfl (hR3.setRow _) (ax _ _) rfl ⟨rfl,ag hb03 (Lt _) _⟩
end
section
open Go.RowKit
theorem Gc (h l k:Nat) (hl:l<2^k) (hs:2^k*h+l<2^64):bits .or .u64 ((2^k*h:Nat):Int) (l:Int)=((2^k*h+l:Nat):Int):=by
 rw [wZ];have e:(BitVec.ofInt 64 ((2^k*h:Nat):Int)|||BitVec.ofInt 64 (l:Int)).toNat=2^k*h+l:=by
  rw [BitVec.toNat_or,XT,XT,We,We,Wh oA,Wh oA,Nat.two_pow_add_eq_or_of_lt hl]
 show ((BitVec.toNat _:Nat):Int)=_;rw [e]
theorem rZ (x y:Nat) (w:World) (hx:x<2^64) (hy:y<2^64):
  Calls prog 213 #[.int .u64 (x:Int),.int .u64 (y:Int)] w fun e w'=>e= .returned (.tuple #[.int .u64 ((x*y/2^64:Nat):Int),.int .u64 ((x*y%2^64:Nat):Int)])/\w=w':=by
 obtain ⟨x1,hx1⟩:=Le (x/4294967296);obtain ⟨x0,hx0⟩:=Le (x%4294967296);obtain ⟨y1,hy1⟩:=Le (y/4294967296);obtain ⟨y0,hy0⟩:=Le (y%4294967296);have bd:∀p q:Nat,p<=4294967295->q<=4294967295->p*q<=18446744065119617025:=fun p q h1 h2=>XY h1 h2;have b00:=bd x0 y0 oA oA;have b10:=bd x1 y0 oA oA;have b01:=bd x0 y1 oA oA;have b11:=bd x1 y1 oA oA;have hxy:=uM x1 x0 y1 y0 4294967296;rw [show x1*4294967296+x0=x by omega,show y1*4294967296+y0=y by omega] at hxy;have m00:=fV x0 y0;have m10:=fV x1 y0;have m01:=fV x0 y1;have m11:=fV x1 y1;obtain ⟨a,ha⟩:=Le (x0*y0);obtain ⟨b,hb⟩:=Le (x1*y0);obtain ⟨c,hc⟩:=Le (x0*y1);obtain ⟨d,hd⟩:=Le (x1*y1);rw [<-ha] at b00 m00 hxy;rw [<-hb] at b10 m10 hxy;rw [<-hc] at b01 m01 hxy;rw [<-hd] at b11 m11 hxy;rw [Wh oA] at m00 m10 m01 m11;obtain ⟨t,ht⟩:=Le (b+a/4294967296);obtain ⟨t0,ht0⟩:=Le (t%4294967296);obtain ⟨t1,ht1⟩:=Le (t/4294967296);obtain ⟨s,hs⟩:=Le (c+t0);obtain ⟨u,hu⟩:=Le (d+t1);obtain ⟨v,hv⟩:=Le (u+s/4294967296);obtain ⟨a0,ha0⟩:=Le (a%4294967296);obtain ⟨s0,hs0⟩:=Le (s%4294967296);obtain ⟨r,hr⟩:=Le (x*y%2^64);have HV:v=x*y/2^64:=(by rw [hxy];omega);have HR:r=4294967296*s0+a0:=(by rw [hr,hxy];omega);have q1:(x:Int)/4294967296=(x1:Int):=oA;have q2:(y:Int)/4294967296=(y1:Int):=oA;have a1:=xg x hx;have a2:=xg y hy;rw [<-hx0] at a1;rw [<-hy0] at a2;have a3:=xg t oA;rw [<-ht0] at a3;have a4:=xg a oA;rw [<-ha0] at a4;obtain ⟨z,hz⟩:=Le (4294967296*s0);have o1:=Gc s0 a0 32 oA oA;rw [show 2^32*s0=z by omega,show z+a0=r by omega] at o1;have w1:IntKind.u64.wrap ((b:Int)+(a:Int)/4294967296)=(t:Int):=(by rw [show (b:Int)+(a:Int)/4294967296=((t:Nat):Int) by omega,eH];omega);have w2:(t:Int)/4294967296=(t1:Int):=oA;have w3:IntKind.u64.wrap ((c:Int)+(t0:Int))=(s:Int):=(by rw [show (c:Int)+(t0:Int)=((s:Nat):Int) by omega,eH];omega);have w4:IntKind.u64.wrap ((d:Int)+(t1:Int))=(u:Int):=(by rw [show (d:Int)+(t1:Int)=((u:Nat):Int) by omega,eH];omega);have w5:IntKind.u64.wrap ((u:Int)+(s:Int)/4294967296)=(v:Int):=(by rw [show (u:Int)+(s:Int)/4294967296=((v:Nat):Int) by omega,eH];omega);have w6:(s:Int)*4294967296%18446744073709551616=(z:Int):=oA;have w7:IntKind.u64.wrap ((s:Int)*4294967296)=(z:Int):=(by rw [show (s:Int)*4294967296=((s*4294967296:Nat):Int) by omega,eH];omega);rw [<-HV,<-hr]
 clear hx0 hx1 hy0 hy1 ha hb hc hd ht ht0 ht1 hs hu hv hr HV HR hxy bd ha0 hs0 hz;go_enter func213,ntmps213;go_wp2_with fail;go_ret2;exact ⟨rfl,rfl⟩
theorem qZ (y x:Nat) (w:World) (hy:y<2^40) (hx:x<65536):
  Calls prog 212 #[.int .u64 (y:Int),.int .u64 (x:Int)] w fun e w'=>e= .returned (.bool (pwB false y x))/\w=w':=by
 have hm:=rZ y y w oA oA;have hp:pwB false y x=decide (y*y<=x*18446744073709551616):=rfl;obtain ⟨h,hh⟩:=Le (y*y/2^64);obtain ⟨l,hl⟩:=Le (y*y%2^64);rw [<-hh,<-hl] at hm;obtain ⟨P,hP⟩:=Le (y*y);rw [<-hP] at hh hl hp;have HM:=Hd hm;clear hm hP;by_cases h1:h<x
 .have HR:=Hd (show pwB false y x=true by rw [hp];simp;omega);have t1:decide (h<x)=true:=(by simpa using h1);clear hh hl hp;go_enter func212,ntmps212;go_wp2_with fail;refine HM.out.mono ?_;rintro e w' ⟨rfl,rfl⟩;go_wp2_with fail;go_ret;exact ⟨by rw [HR.out];rfl,rfl⟩
 .by_cases h2:h=x/\l=0
  .obtain ⟨rfl,rfl⟩:=h2;have HR:=Hd (show pwB false y h=true by rw [hp];simp;omega);clear hh hl hp;go_enter func212,ntmps212;go_wp2_with fail;refine HM.out.mono ?_;rintro e w' ⟨rfl,rfl⟩;go_wp2_with fail;go_ret;exact ⟨by rw [HR.out];rfl,rfl⟩
  .have HR:=Hd (show pwB false y x=false by rw [hp];simp;omega);have t1:decide (h<x)=false:=(by simpa using h1);by_cases h3:h=x
   .subst h3;have t3:((l:Int)==0)=false:=soA;clear hh hl hp h1 h2;go_enter func212,ntmps212;go_wp2_with fail;refine HM.out.mono ?_;rintro e w' ⟨rfl,rfl⟩;go_wp2_with fail;go_ret;exact ⟨by rw [HR.out];rfl,rfl⟩
   .have t3:((h:Int)==(x:Int))=false:=soA;clear hh hl hp h1 h2;go_enter func212,ntmps212;go_wp2_with fail;refine HM.out.mono ?_;rintro e w' ⟨rfl,rfl⟩;go_wp2_with fail;go_ret;exact ⟨by rw [HR.out];rfl,rfl⟩
theorem yC (y x:Nat) (w:World) (hy:y<2^37) (hx:x<65536):
  Calls prog 211 #[.int .u64 (y:Int),.int .u64 (x:Int)] w fun e w'=>e= .returned (.bool (pwB true y x))/\w=w':=by
 have hm:=rZ y y w oA oA;have hp:pwB true y x=decide (y*y*y<=x*79228162514264337593543950336):=rfl;obtain ⟨h,hh⟩:=Le (y*y/2^64);obtain ⟨l,hl⟩:=Le (y*y%2^64);rw [<-hh,<-hl] at hm;have hm2:=rZ l y w oA oA;obtain ⟨a,ha⟩:=Le (l*y/2^64);obtain ⟨b,hb⟩:=Le (l*y%2^64);rw [<-ha,<-hb] at hm2;have hyy:y*y<=2^37*2^37:=XY oA oA;have hh2:h<=1024:=oA;have hhy:h*y<=1024*2^37:=XY oA oA;have hly:l*y<=2^64*2^37:=XY oA oA;obtain ⟨C,hC⟩:=Le (h*y+a);have hcube:=rG y h l a b C (y*y) rfl hh hl ha hb hC;rw [hcube] at hp;have k1:=fV h y;rw [Wh oA] at k1;obtain ⟨q,hq⟩:=Le (h*y);rw [<-hq] at k1 hC hhy;have k2:IntKind.u64.wrap ((q:Int)+(a:Int))=(C:Int):=(by rw [show (q:Int)+(a:Int)=((C:Nat):Int) by omega,eH];omega);have hCl:C<2^48:=oA;have hbl:b<2^64:=oA;obtain ⟨N,hN⟩:=Le (x*4294967296);have k3:(x:Int)*4294967296=(N:Int):=oA;have HM:=Hd hm;have HM2:=Hd hm2;clear hm hm2 hh hl ha hb hC hcube hq hyy hly hhy;by_cases h1:C<N
 .have HR:=Hd (show pwB true y x=true by rw [hp];exact VO oA);have t1:decide (C<N)=true:=(by simpa using h1);clear hp hN;go_enter func211,ntmps211;go_wp2_with fail;refine HM.out.mono ?_;rintro e w' ⟨rfl,rfl⟩;go_wp2_with fail;refine HM2.out.mono ?_;rintro e w' ⟨rfl,rfl⟩;go_wp2_with fail;refine HM2.out.mono ?_;rintro e w' ⟨rfl,rfl⟩;go_wp2_with fail;go_ret;exact ⟨by rw [HR.out];rfl,rfl⟩
 .by_cases h2:C=N
  .subst h2;by_cases h4:b=0
   .subst h4;have HR:=Hd (show pwB true y x=true by rw [hp];exact VO oA);clear hp hN;go_enter func211,ntmps211;go_wp2_with fail;refine HM.out.mono ?_;rintro e w' ⟨rfl,rfl⟩;go_wp2_with fail;refine HM2.out.mono ?_;rintro e w' ⟨rfl,rfl⟩;go_wp2_with fail;refine HM2.out.mono ?_;rintro e w' ⟨rfl,rfl⟩;go_wp2_with fail;go_ret;exact ⟨by rw [HR.out];rfl,rfl⟩
   .have t4:((b:Int)==0)=false:=soA;have HR:=Hd (show pwB true y x=false by rw [hp];exact Vd oA);clear hp hN;go_enter func211,ntmps211;go_wp2_with fail;refine HM.out.mono ?_;rintro e w' ⟨rfl,rfl⟩;go_wp2_with fail;refine HM2.out.mono ?_;rintro e w' ⟨rfl,rfl⟩;go_wp2_with fail;refine HM2.out.mono ?_;rintro e w' ⟨rfl,rfl⟩;go_wp2_with fail;go_ret;exact ⟨by rw [HR.out];rfl,rfl⟩
  .have t1:decide (C<N)=false:=(by simpa using h1);have t2:((C:Int)==(N:Int))=false:=soA;have HR:=Hd (show pwB true y x=false by rw [hp];exact Vd oA);clear hp hN h1 h2;go_enter func211,ntmps211;go_wp2_with fail;refine HM.out.mono ?_;rintro e w' ⟨rfl,rfl⟩;go_wp2_with fail;refine HM2.out.mono ?_;rintro e w' ⟨rfl,rfl⟩;go_wp2_with fail;refine HM2.out.mono ?_;rintro e w' ⟨rfl,rfl⟩;go_wp2_with fail;go_ret;exact ⟨by rw [HR.out];rfl,rfl⟩
open Go.RowKit
def tsB (third:Bool) (y n:Nat):Bool:=if third then decide (y<68719476736)&&pwB true y n else pwB false y n
def hfx (third:Bool) (n:Nat):Nat->Nat
 |0=>0
 |k+1=>if tsB third (hfx third n k+2^(39-k)) n then hfx third n k+2^(39-k) else hfx third n k
theorem Cw (third:Bool) (n:Nat):∀k,k<=40->∃q,hfx third n k=2^(40-k)*q/\hfx third n k+2^(40-k)<=2^40
 |0,_=>⟨0,rfl,by simp [hfx]⟩
 |k+1,h=>by
  obtain ⟨q,hq,hle⟩:=Cw third n k oA;have e:2^(40-k)=2^(40-(k+1))*2:=(by rw [show 40-k=(40-(k+1))+1 by omega,Nat.pow_succ]);have e2:39-k=40-(k+1):=oA;rw [hfx];split
  .refine ⟨2*q+1,?_,?_⟩
   .rw [hq,e,e2,Nat.mul_add,Vk,Nat.mul_assoc]
   .rw [e2];omega
  .refine ⟨2*q,?_,?_⟩
   .rw [hq,e,Nat.mul_assoc]
   .omega
theorem OH:(pF.map fun x=>BitVec.ofNat 32 (hfx true x 40))=JV:=by decide+kernel
theorem OI:((pF.take 8).map fun x=>BitVec.ofNat 32 (hfx false x 40))=JW:=by decide+kernel
theorem Cu {third:Bool} {n k X Y p:Nat} (hX:X=hfx third n k) (hp:2^(39-k)=p) (hY:Y=X+p) (h:tsB third Y n=true):Y=hfx third n (k+1):=by
 subst hX hp hY;rw [hfx,if_pos h]
theorem Cv {third:Bool} {n k X Y p:Nat} (hX:X=hfx third n k) (hp:2^(39-k)=p) (hY:Y=X+p) (h:tsB third Y n=false):X=hfx third n (k+1):=by
 subst hX hp hY;rw [hfx,h];rfl
theorem FU (Y n:Nat) (b:Bool) (h:pwB false Y n=b):tsB false Y n=b:=h
theorem FV (Y n:Nat) (b:Bool) (h:Y<68719476736) (hb:pwB true Y n=b):tsB true Y n=b:=by
 rw [tsB,if_pos rfl,hb,VO h];rfl
theorem Hj (Y n:Nat) (h:¬Y<68719476736):tsB true Y n=false:=by
 rw [tsB,if_pos rfl,Vd h];rfl
def Pm (w:World) (third:Bool) (n:Nat) (f:Nat) (x i:Value) (wr:World):Prop:=
 ∃(k:Nat) (z:Int) (X:Nat),f+k=40/\z=39-(k:Int)/\X=hfx third n k/\i= .int .i64 z/\x= .int .u64 (X:Int)/\w=wr
theorem yu (n:Nat) (third:Bool) (w:World) (hn:n<65536):
  Calls prog 208 #[.int .u64 (n:Int),.bool third] w fun e w'=>e= .returned (.int .u64 (hfx third n 40:Int))/\w=w':=by
 go_enter func208,ntmps208;go_wp2_with fail;go_loopg [5,6] 40 (Pm w third n)
 case atStart=>exact ⟨0,39,0,oA,oA,rfl,rfl,rfl,rfl⟩
 case round=>
  obtain ⟨k,z,X,hf,hz,hX,rfl,rfl,rfl⟩:=hrel;have HF:=Hd hf;by_cases hk:k<40
  .obtain ⟨j,hj⟩:=Le (39-k);obtain rfl:z=(j:Int):=oA;have hj40:(j:Int)<40:=oA;obtain ⟨p,hp⟩:=Le (2^j);have hsh:IntKind.u64.wrap ((2:Int)^j)=(p:Int):=by
    have hlt:2^j<2^64:=Nat.pow_lt_pow_right oA oA;rw [show (2:Int)^j=((2^j:Nat):Int) by norm_cast,eH,Wh hlt,hp]
   obtain ⟨q,hq,hle⟩:=Cw third n k oA;have e40:40-k=j+1:=oA;rw [e40] at hq hle;have hb:2^(j+1)=2*p:=(by rw [hp,Nat.pow_succ,Wi]);have hlt:X+2*p<=1099511627776:=(by rw [hX,<-hb];exact hle);have hp0:0<p:=(by rw [hp];exact Nat.two_pow_pos j);have hor:=Gc q p (j+1) oA (by rw [<-hq,<-hX];omega);rw [<-hq,<-hX] at hor;obtain ⟨Y,hY⟩:=Le (X+p);rw [<-hY] at hor;have hY40:Y<2^40:=oA;have HX:=Hd hX;have HJ:=Hd hj;have HP:=Hd hp;have HY:=Hd hY;have HPJ:=Hd (show 2^(39-k)=p by rw [hp,hj]);clear hX hj hp hY hq hle e40 hb hlt hp0 hf hz;cases third with
   |false=>
    cases hb:pwB false Y n with
    |true=>
     have HB:=Hd hb;clear hb;go_wp2_with fail;refine (qZ Y n _ hY40 hn).mono ?_;rw [HB.out];rintro e w' ⟨rfl,rfl⟩;go_wp2_with fail;go_roundg (gk-1)
     case rel=>exact ⟨k+1,(j:Int)-1,Y,by have:=HF.out;omega,by have:=HJ.out;omega,Cu HX.out HPJ.out HY.out (FU _ _ _ HB.out),rfl,rfl,rfl⟩
     case measure=>have:=HF.out;omega
    |false=>
     have HB:=Hd hb;clear hb;go_wp2_with fail;refine (qZ Y n _ hY40 hn).mono ?_;rw [HB.out];rintro e w' ⟨rfl,rfl⟩;go_wp2_with fail;go_roundg (gk-1)
     case rel=>exact ⟨k+1,(j:Int)-1,X,by have:=HF.out;omega,by have:=HJ.out;omega,Cv HX.out HPJ.out HY.out (FU _ _ _ HB.out),rfl,rfl,rfl⟩
     case measure=>have:=HF.out;omega
   |true=>
    by_cases h36:Y<68719476736
    .have t36:decide ((Y:Int)<68719476736)=true:=soA;cases hb:pwB true Y n with
     |true=>
      have HB:=Hd hb;clear hb;go_wp2_with fail;refine (yC Y n _ oA hn).mono ?_;rw [HB.out];rintro e w' ⟨rfl,rfl⟩;go_wp2_with fail;go_roundg (gk-1)
      case rel=>exact ⟨k+1,(j:Int)-1,Y,by have:=HF.out;omega,by have:=HJ.out;omega,Cu HX.out HPJ.out HY.out (FV _ _ _ h36 HB.out),rfl,rfl,rfl⟩
      case measure=>have:=HF.out;omega
     |false=>
      have HB:=Hd hb;clear hb;go_wp2_with fail;refine (yC Y n _ oA hn).mono ?_;rw [HB.out];rintro e w' ⟨rfl,rfl⟩;go_wp2_with fail;go_roundg (gk-1)
      case rel=>exact ⟨k+1,(j:Int)-1,X,by have:=HF.out;omega,by have:=HJ.out;omega,Cv HX.out HPJ.out HY.out (FV _ _ _ h36 HB.out),rfl,rfl,rfl⟩
      case measure=>have:=HF.out;omega
    .have t36:decide ((Y:Int)<68719476736)=false:=soA;go_wp2_with fail;go_roundg (gk-1)
     case rel=>exact ⟨k+1,(j:Int)-1,X,by have:=HF.out;omega,by have:=HJ.out;omega,Cv HX.out HPJ.out HY.out (Hj _ _ h36),rfl,rfl,rfl⟩
     case measure=>have:=HF.out;omega
  .obtain rfl:k=40:=oA;obtain rfl:z= -1:=oA;have HX:=Hd hX;clear hf hz hX;go_wp2_with fail;go_ret;exact ⟨by rw [<-HX.out];rfl,rfl⟩
open Go.RowKit
def okB (X:Nat) (l:List Nat) (j:Nat):Bool:=(l.take j).all fun p=>X%p !=0
theorem EB (X:Nat) (l:List Nat) (j:Nat) (h:j<l.length):okB X l (j+1)=(okB X l j&&X%l[j] !=0):=by
 unfold okB;rw [VW h,List.all_append];simp
theorem Il (X:Nat) (l:List Nat):okB X l l.length=l.all fun p=>X%p !=0:=by unfold okB;rw [List.take_length]
def Pr1 (w:World) (n:Nat) (f:Nat) (l x:Value) (wr:World):Prop:=
 ∃(k X L:Nat) (pa:Option Addr) (pc:Nat),f+k=311/\X=k+2/\L=(ps k).length/\L<=n/\l= .slice pa L pc/\x= .int .u64 (X:Int)/\Own wr w.heap.size 105 1 pa (ps k).length pc ((ps k).map nv)/\Below w.heap.size w wr
def Pr2 (wq:World) (X:Nat) (l:List Nat) (f:Nat) (ok i:Value) (wr:World):Prop:=
 ∃j:Nat,f+j=l.length/\i= .int .i64 (j:Int)/\ok= .bool (okB X l j)/\wq=wr
theorem pD (n:Nat) (w:World) (hn:n<=64):
  Calls prog 207 #[.int .i64 (n:Int)] w fun e w'=>∃k a c,(ps k).length=n/\e= .returned (.slice a n c)/\Own w' w.heap.size 105 1 a n c ((ps k).map nv)/\Below w.heap.size w w':=by
 go_enter func207,ntmps207;go_wp2_with fail;go_loopg [3,4] 311 (Pr1 w n)
 case atStart=>exact ⟨0,2,0,none,0,oA,rfl,rfl,oA,rfl,rfl,Own.nil _ _ _ _,AT _ _⟩
 case round=>
  obtain ⟨k,X,L,pa,pc,hf,hX,hL,hLn,rfl,rfl,hown,hb⟩:=hrel;have hpm:=hown.le_max;rw [<-hL] at hpm;unfold maxLen at hpm;have hln:L<=k:=(by rw [hL];exact Ga k);by_cases hlt:L<n
  .have tl:decide (L<n)=true:=(by simpa using hlt);have hk:k<310:=KL oA;have hXl:X<65536:=oA;have HF:=Hd hf;have HX:=Hd hX;have HL:=Hd hL;clear hf hX hL;obtain ⟨g0,rfl⟩:∃g:Nat,g=gk:=⟨_,rfl⟩;obtain ⟨wo,rfl⟩:∃wo:World,wo=wr:=⟨_,rfl⟩;go_wp2_with fail;go_loopg [5,6] L (Pr2 wo X (ps k))
   case atStart=>exact ⟨0,by rw [<-HL.out];omega,rfl,rfl,rfl⟩
   case round=>
    obtain ⟨j,hf,rfl,rfl,rfl⟩:=hrel;have hlen:=HL.out;by_cases hj:j<L
    .have tj:decide (j<L)=true:=(by simpa using hj);have hjl:j<(ps k).length:=(by rw [<-hlen];exact hj);obtain ⟨b,o,hpa,hc⟩:=hown.row j (by simpa using hjl);subst hpa;obtain ⟨p,hp⟩:=Le ((ps k)[j]);have hc':wo.cell? ⟨b,o+j,none⟩=some (.int .u64 (p:Int)):=by
      rw [hc,hp];simp [nv]
     have hp2:2<=p:=(by rw [hp];exact (FZ k _ (VE _)).1);have hp2I:(2:Int)<=(p:Int):=oA;have HS:=Hd (EB X (ps k) j hjl);have HP:=Hd hp;have HF2:=Hd hf;have HC:=Hd hlen;clear hc hp hf hlen;have td:((X:Int)%(p:Int) !=0)=(X%p !=0):=by
      rw [Wj];simp;omega
     have fin:∀c:Bool,(okB X (ps k) j&&X%p !=0)=c->Value.bool c= .bool (okB X (ps k) (j+1)):=fun c h=>(by rw [HS.out,<-HP.out,h]);have FIN:=Hd fin;clear fin;cases hok:okB X (ps k) j with
     |true=>
      cases hd:(X%p !=0) with
      |true=>
       rw [hd] at td;have HQ:=Hd (FIN.out true (by rw [hok,hd];rfl));clear hok hd;go_wp2_with fail;go_roundg (gk-1)
       case rel=>exact ⟨j+1,by have:=HF2.out;omega,gnA,HQ.out,rfl⟩
       case measure=>have hf:=HF2.out;have:=HC.out;omega
      |false=>
       rw [hd] at td;have HQ:=Hd (FIN.out false (by rw [hok,hd];rfl));clear hok hd;go_wp2_with fail;go_roundg (gk-1)
       case rel=>exact ⟨j+1,by have:=HF2.out;omega,gnA,HQ.out,rfl⟩
       case measure=>have hf:=HF2.out;have:=HC.out;omega
     |false=>
      have HQ:=Hd (FIN.out false (by rw [hok];rfl));clear hok td;go_wp2_with fail;go_roundg (gk-1)
      case rel=>exact ⟨j+1,by have:=HF2.out;omega,gnA,HQ.out,rfl⟩
      case measure=>have hf:=HF2.out;have:=HC.out;omega
    .have tj:decide (j<L)=false:=(by simpa using hj);have hall:okB X (ps k) j=(ps k).all fun p=>X%p !=0:=(by rw [show j=(ps k).length by omega,Il]);have hstep:ps (k+1)=if okB X (ps k) j then ps k++ [X] else ps k:=by
      have hX:=HX.out;rw [hall,ps,mp,<-hX]
     have hsz:=hb.size;have HST:=Hd hstep;clear hall hf hlen hstep;cases hok:okB X (ps k) j with
     |true=>
      have HE:=Hd (show ps (k+1)=ps k++ [X] by rw [HST.out,hok];rfl);clear hok;have hown1:=hown;rw [<-HL.out] at hown1;clear hown;go_wp2_with (at_builtin;refine al rfl (.tmp 30) (.tmp 32) 278 rfl KB rfl (hown1.alloc _) rfl (aw.new' _ _ _ _ skA) rfA (by exact dg _ rfl) mxA oA soA ?_);intro pa' pc' w4 hown4 hg4;have hb4:=(hown1.alloc (.cells #[Value.int .u64 (X:Int)] 105)).grown (hb.alloc hsz _) (Lt _) hg4 soA;clear hown1 hg4 hb;go_wp2_with fail;go_roundg (g0-1)
      case rel=>
       have hf:=HF.out;have hX:=HX.out;have e:=HE.out;have el:(ps (k+1)).length=L+1:=(by rw [e,laA,<-HL.out];rfl);refine ⟨k+1,X+1,L+1,pa',pc',oA,oA,el.symm,oA,rfl,gnA,?_,hb4⟩;rw [el,e,VG];exact hown4
      case measure=>have hf:=HF.out;omega
     |false=>
      have HE:=Hd (show ps (k+1)=ps k by rw [HST.out,hok];rfl);clear hok;go_wp2_with fail;go_roundg (g0-1)
      case rel=>
       have hf:=HF.out;have hX:=HX.out;exact ⟨k+1,X+1,L,_,_,oA,oA,by rw [HE.out];exact HL.out,hLn,rfl,gnA,by rw [HE.out];exact hown,hb⟩
      case measure=>have hf:=HF.out;omega
  .have tl:decide (L<n)=false:=(by simpa using hlt);obtain rfl:L=n:=oA;have HL:=Hd hL;clear hf hX hL;go_wp2_with fail;go_ret;refine ⟨k,pa,pc,HL.out.symm,rfl,?_,hb⟩;have:=hown;rw [<-HL.out] at this;exact this
open Go.RowKit
def frF (third:Bool) (l:List Nat) (j:Nat):BitVec 32:=BitVec.ofNat 32 (hfx third (l.getD j 0) 40)
structure FrI (w:World) (H n t:Nat) (ty:TypeId) (third:Bool) (l:List Nat) (pa:Option Addr) (pc:Nat) (wr:World):Prop where
 res:Blk wr H (vA n fun _=> .int .u32 0) ty
 out:Blk wr (H+1) (vA n fun j=>if j<t then wv (frF third l j) else .int .u32 0) ty
 own:Own wr (H+2) 105 1 pa n pc (l.map nv)
 below:Below H w wr
def Fr1 (w:World) (H n:Nat) (ty:TypeId) (third:Bool) (l:List Nat) (pa:Option Addr) (pc:Nat) (f:Nat) (i:Value) (wr:World):Prop:=
 ∃t:Nat,f+t=n/\i= .int .i64 (t:Int)/\FrI w H n t ty third l pa pc wr
theorem OL {k j:Nat} (h:(ps k).length=8) (hj:j<8):frF false (ps k) j=hwd j:=by
 have e:(ps k).map (fun x=>BitVec.ofNat 32 (hfx false x 40))=JW:=(by rw [nb h oA,OI]);rw [hwd,<-e,frF,VX,VX,List.getElem?_map,Vx oA];rfl
theorem OK {k j:Nat} (h:(ps k).length=64) (hj:j<64):frF true (ps k) j=kwd j:=by
 have e:(ps k).map (fun x=>BitVec.ofNat 32 (hfx true x 40))=JV:=by
  rw [nb h oA,<-OH];rfl
 rw [kwd,<-e,frF,VX,VX,List.getElem?_map,Vx oA];rfl
theorem zq (w:World):Calls prog 199 #[] w fun e w'=>e= .returned (.agg (vA 8 fun j=>wv (hwd j)))/\Below w.heap.size w w':=by
 obtain ⟨H,hH⟩:=Le w.heap.size;rw [<-hH];have HH:=Hd hH;go_enter func199,ntmps199;go_wp2_with fail;refine (pD 8 _ oA).mono ?_;rintro e w1 ⟨k,pa,pc,hk,rfl,ho,hb⟩;simp only [Wg] at ho hb;have hI0:FrI w H 8 0 267 false (ps k) pa pc w1:=by
  refine ⟨?_,?_,by rw [hH];exact ho,?_⟩
  .have:=(Blk.new2 w (vA 8 fun _=> .int .u32 0) 267 (.cells (vA 8 fun _=> .int .u32 0) 267)).below hb oA;rw [hH];exact this
  .have:=(Blk.new2' w (vA 8 fun _=> .int .u32 0) 267 (.cells (vA 8 fun _=> .int .u32 0) 267)).below hb oA;rw [hH];exact this.ofV fun i _=>by simp
  .rw [hH];exact (((AT _ _).alloc (Lt _) _).alloc skA _).trans (hb.mono oA)
 have hp:∀j,j<8->(ps k).getD j 0<65536:=fun j hj=>by
  rw [nb hk oA];revert j;decide
 have HK:=Hd hk;rw [<-hH];clear ho hb hk hH;go_wp2_with fail;go_loopg [3] 8 (Fr1 w H 8 267 false (ps k) pa pc)
 case atStart=>exact ⟨0,oA,rfl,hI0⟩
 case round=>
  clear hI0;obtain ⟨t,hf,rfl,hI⟩:=hrel;by_cases ht:t<8
  .have tt:decide ((t:Int)<8)=true:=soA;have htI:(t:Int)<8:=oA;have HF:=Hd hf;clear hf;obtain ⟨b,o,rfl,hc⟩:=hI.own.row t (by rw [lmA,HK.out];exact ht);obtain ⟨x,hx⟩:=Le ((ps k).getD t 0);have hc':wr.cell? ⟨b,o+t,none⟩=some (.int .u64 (x:Int)):=by
    rw [hc,hx,Wz,VX,Vx (by rw [HK.out];exact ht)];rfl
   have hx6:x<65536:=(by rw [hx];exact hp t ht);have HX:=Hd hx;clear hc hx;go_wp2_with fail;refine (yu x false _ hx6).mono ?_;rintro e w' ⟨rfl,rfl⟩;have hU:=tG (hfx false x 40);have f3:=hI.out.free;have c3:=hI.out.atV (show t<8 by omega) rfl;go_wp2_with fail;clear c3 f3 hc' hU;go_roundg (gk-1)
   case rel=>
    have hf:=HF.out;refine ⟨t+1,oA,gnA,hI.res.other _ _ (by show H≠H+1;omega),?_,hI.own.setCell_lt _ _ (by show H+1<H+2;omega),hI.below.setCell (by show H<=H+1;omega) _⟩;refine (hI.out.setV ht _).ofV fun j _=> ?_;by_cases e:j=t
    .subst e;rw [if_pos rfl,if_pos oA,frF,<-HX.out];rfl
    .rw [if_neg e];by_cases e2:j<t
     .rw [if_pos e2,if_pos oA]
     .rw [if_neg e2,if_neg oA]
   case measure=>have hf:=HF.out;omega
  .obtain rfl:t=8:=oA;have tt:decide (((8:Nat):Int)<8)=false:=skA;clear hf;have hO:Blk wr (H+1) (vA 8 fun j=>wv (hwd j)) 267:=hI.out.ofV fun j hj=>(by rw [if_pos hj,OL HK.out hj]);have hR:=hI.res;go_wp2_with (first|refine am rfl 267 xh _ rfl rfl hO (ax _ _) ?_|refine aa rfl 267 xh (.tmp 0) _ (cells:=vA 8 fun j=>wv (hwd j)) rfl rfl rfl hR (ax _ _) (ax _ _) (du fun _ _=>rfl) ?_);refine cv rfl xh rfl (hR.setRow _) (ax _ _) rfl ⟨rfl,?_⟩;exact ag hI.below (Lt _) _
theorem vT (w:World):Calls prog 200 #[] w fun e w'=>e= .returned (.agg (vA 64 fun j=>wv (kwd j)))/\Below w.heap.size w w':=by
 obtain ⟨H,hH⟩:=Le w.heap.size;rw [<-hH];have HH:=Hd hH;go_enter func200,ntmps200;go_wp2_with fail;refine (pD 64 _ oA).mono ?_;rintro e w1 ⟨k,pa,pc,hk,rfl,ho,hb⟩;simp only [Wg] at ho hb;have hI0:FrI w H 64 0 268 true (ps k) pa pc w1:=by
  refine ⟨?_,?_,by rw [hH];exact ho,?_⟩
  .have:=(Blk.new2 w (vA 64 fun _=> .int .u32 0) 268 (.cells (vA 64 fun _=> .int .u32 0) 268)).below hb oA;rw [hH];exact this
  .have:=(Blk.new2' w (vA 64 fun _=> .int .u32 0) 268 (.cells (vA 64 fun _=> .int .u32 0) 268)).below hb oA;rw [hH];exact this.ofV fun i _=>by simp
  .rw [hH];exact (((AT _ _).alloc (Lt _) _).alloc skA _).trans (hb.mono oA)
 have hp:∀j,j<64->(ps k).getD j 0<65536:=fun j hj=>by
  rw [nb hk oA];revert j;decide
 have HK:=Hd hk;rw [<-hH];clear ho hb hk hH;go_wp2_with fail;go_loopg [3] 64 (Fr1 w H 64 268 true (ps k) pa pc)
 case atStart=>exact ⟨0,oA,rfl,hI0⟩
 case round=>
  clear hI0;obtain ⟨t,hf,rfl,hI⟩:=hrel;by_cases ht:t<64
  .have tt:decide ((t:Int)<64)=true:=soA;have htI:(t:Int)<64:=oA;have HF:=Hd hf;clear hf;obtain ⟨b,o,rfl,hc⟩:=hI.own.row t (by rw [lmA,HK.out];exact ht);obtain ⟨x,hx⟩:=Le ((ps k).getD t 0);have hc':wr.cell? ⟨b,o+t,none⟩=some (.int .u64 (x:Int)):=by
    rw [hc,hx,Wz,VX,Vx (by rw [HK.out];exact ht)];rfl
   have hx6:x<65536:=(by rw [hx];exact hp t ht);have HX:=Hd hx;clear hc hx;go_wp2_with fail;refine (yu x true _ hx6).mono ?_;rintro e w' ⟨rfl,rfl⟩;have hU:=tG (hfx true x 40);have f3:=hI.out.free;have c3:=hI.out.atV (show t<64 by omega) rfl;go_wp2_with fail;clear c3 f3 hc' hU;go_roundg (gk-1)
   case rel=>
    have hf:=HF.out;refine ⟨t+1,oA,gnA,hI.res.other _ _ (by show H≠H+1;omega),?_,hI.own.setCell_lt _ _ (by show H+1<H+2;omega),hI.below.setCell (by show H<=H+1;omega) _⟩;refine (hI.out.setV ht _).ofV fun j _=> ?_;by_cases e:j=t
    .subst e;rw [if_pos rfl,if_pos oA,frF,<-HX.out];rfl
    .rw [if_neg e];by_cases e2:j<t
     .rw [if_pos e2,if_pos oA]
     .rw [if_neg e2,if_neg oA]
   case measure=>have hf:=HF.out;omega
  .obtain rfl:t=64:=oA;have tt:decide (((64:Nat):Int)<64)=false:=skA;clear hf;have hO:Blk wr (H+1) (vA 64 fun j=>wv (kwd j)) 268:=hI.out.ofV fun j hj=>(by rw [if_pos hj,OK HK.out hj]);have hR:=hI.res;go_wp2_with (first|refine am rfl 268 Ao _ rfl rfl hO (ax _ _) ?_|refine aa rfl 268 Ao (.tmp 0) _ (cells:=vA 64 fun j=>wv (kwd j)) rfl rfl rfl hR (ax _ _) (ax _ _) (du fun _ _=>rfl) ?_);refine cv rfl Ao rfl (hR.setRow _) (ax _ _) rfl ⟨rfl,?_⟩;exact ag hI.below (Lt _) _
open Go.RowKit
theorem CV (c:UInt8):U8 c%(4294967296:Int)=U32 (c.toBitVec.setWidth 32):=by
 rw [<-gJ,show U8 c%(4294967296:Int)=U8 c from by have:=As c;have:=xj c;omega];have h:(U8 c)=((c.toNat:Nat):Int):=rfl;rw [h,XT,U32,We,Wh];have:=xj c;rw [h] at this;omega
theorem ua (a:BitVec 32):U32 a*(65536:Int)%(4294967296:Int)=U32 (a<<<16):=tF a 16
theorem tZ (a:BitVec 32):U32 a*(16777216:Int)%(4294967296:Int)=U32 (a<<<24):=tF a 24
theorem Kl (a b c d:BitVec 32):(((0#32<<<8|||a)<<<8|||b)<<<8|||c)<<<8|||d=a<<<24|||b<<<16|||c<<<8|||d:=by
 simp only [BitVec.shiftLeft_or_distrib,<-BitVec.shiftLeft_add];simp
theorem yQ (m:List UInt8) (p:Nat) (h:p+3<m.length):mN m p 4=(m[p].toBitVec.setWidth 32)<<<24|||(m[p+1].toBitVec.setWidth 32)<<<16|||(m[p+2].toBitVec.setWidth 32)<<<8|||m[p+3].toBitVec.setWidth 32:=by
 rw [<-Kl];simp only [mN,byt,VX,Nat.add_zero];rw [Vx oA,Vx oA,Vx oA,Vx oA];rfl
attribute [local go_sem] sr ua tZ CV gJ gX gY iK gh oM xi tx lL pN
theorem fF (x:BitVec 32) (n:Nat) (z:Int) (hz:z=(n:Int)) (hn:n∈Hv) (w:World):
  Calls prog 209 #[.int .u32 (U32 x),.int .u64 z] w fun e w'=>e= .returned (.int .u32 (U32 (rr x n)))/\w=w':=by
 subst hz;simp only [Hv,Ve,List.not_mem_nil,or_false] at hn;rcases hn with rfl|rfl|rfl|rfl|rfl|rfl|rfl|rfl|rfl|rfl
 .go_enter func209,ntmps209;go_wp2_with fail;go_ret;exact ⟨by rw [<-fQ x 7 33554432 128 rfl rfl,Wv];rfl,rfl⟩
 .go_enter func209,ntmps209;go_wp2_with fail;go_ret;exact ⟨by rw [<-fQ x 18 16384 262144 rfl rfl,Wv];rfl,rfl⟩
 .go_enter func209,ntmps209;go_wp2_with fail;go_ret;exact ⟨by rw [<-fQ x 17 32768 131072 rfl rfl,Wv];rfl,rfl⟩
 .go_enter func209,ntmps209;go_wp2_with fail;go_ret;exact ⟨by rw [<-fQ x 19 8192 524288 rfl rfl,Wv];rfl,rfl⟩
 .go_enter func209,ntmps209;go_wp2_with fail;go_ret;exact ⟨by rw [<-fQ x 6 67108864 64 rfl rfl,Wv];rfl,rfl⟩
 .go_enter func209,ntmps209;go_wp2_with fail;go_ret;exact ⟨by rw [<-fQ x 11 2097152 2048 rfl rfl,Wv];rfl,rfl⟩
 .go_enter func209,ntmps209;go_wp2_with fail;go_ret;exact ⟨by rw [<-fQ x 25 128 33554432 rfl rfl,Wv];rfl,rfl⟩
 .go_enter func209,ntmps209;go_wp2_with fail;go_ret;exact ⟨by rw [<-fQ x 2 1073741824 4 rfl rfl,Wv];rfl,rfl⟩
 .go_enter func209,ntmps209;go_wp2_with fail;go_ret;exact ⟨by rw [<-fQ x 13 524288 8192 rfl rfl,Wv];rfl,rfl⟩
 .go_enter func209,ntmps209;go_wp2_with fail;go_ret;exact ⟨by rw [<-fQ x 22 1024 4194304 rfl rfl,Wv];rfl,rfl⟩
end
end Go.Proofs.YtioigihakjlopaaGreat
