import Derived.Test.YtioigihakjlopaaGreatVF09
namespace Go.Proofs.YtioigihakjlopaaGreat
open Go.Proofs.Tryz
set_option linter.unusedVariables false
set_option linter.unusedSimpArgs false
set_option maxHeartbeats 16000000
set_option maxRecDepth 100000
section
open Go.RowKit
def fX (s:bz):List UInt8:=be8 (s.size:Int)++jW s
def bZ (p:ao):List UInt8:=if p.kind=2 then [2]++be8 p.game++dq p.act else [1]++be8 p.game++be8 p.table++fX p.fmt++fX p.n0++fX p.n1++iv p.d0++iv p.d1++iv p.dr
theorem mu {p:ao} (h:il p=true):p.kind=1\/p.kind=2:=by
 unfold il mK at h;by_cases e:p.kind=1
 .exact .inl e
 .simp [e] at h;have h3:=h.2;unfold DD at h3;simp only [VN,Vu] at h3;exact .inr h3.1
def vv (w1:World) (l:List UInt8) (v:Value) (wr:World):Prop:=
 ∃a n c,v= .slice a n c/\l.length=n/\Own wr w1.heap.size 5 1 a n c (l.map bv)/\Below w1.heap.size w1 wr
theorem vv.app {w1 wr w2 w3:World} {l m:List UInt8} {a a':Option Addr} {n k c c':Nat} (hn:l.length=n) (hk:m.length=k) (h:Own wr w1.heap.size 5 1 a n c (l.map bv)) (hb:Below w1.heap.size w1 wr) (hb2:Below wr.heap.size wr w2)
  (h3:Own w3 w1.heap.size 5 1 a' (n+k) c' (l.map bv++m.map bv)) (hg:w2.grownBy w3 (Value.slice a n c).ownBlock):vv w1 (l++m) (.slice a' (n+k) c') w3:=by
 refine ⟨a',n+k,c',rfl,by rw [laA,hn,hk],by rw [VG];exact h3,?_⟩;exact (h.old hb2).grown (ae hb hb2) (Lt _) hg (At hb.size hb2.size)
def mT (p:ao):List bz:=[p.fmt,p.n0,p.n1]
def jo (p:ao):List (List Int):=[p.d0,p.d1,p.dr]
def wL (p:ao):List UInt8:=[1]++be8 p.game++be8 p.table
theorem vf {p:ao} (h:p.kind=1):bZ p=wL p++(mT p).flatMap fX++(jo p).flatMap iv:=by
 unfold bZ wL mT jo;rw [if_neg (by rw [h];decide)];simp
section
variable (v1 v2 v3:Value) (W:World)
theorem ixs0 (a b c:bz):(Instr.index 135 (.agg #[.string a,.string b,.string c]) (.int .i64 0)).run prog W= .ok (.string a) W:=by kernel_rfl
theorem ixs1 (a b c:bz):(Instr.index 135 (.agg #[.string a,.string b,.string c]) (.int .i64 1)).run prog W= .ok (.string b) W:=by kernel_rfl
theorem ixs2 (a b c:bz):(Instr.index 135 (.agg #[.string a,.string b,.string c]) (.int .i64 2)).run prog W= .ok (.string c) W:=by kernel_rfl
theorem ixr0 (a b c:Option Addr) (n1 n2 n3 c1 c2 c3:Nat):(Instr.index 136 (.agg #[.slice a n1 c1,.slice b n2 c2,.slice c n3 c3]) (.int .i64 0)).run prog W= .ok (.slice a n1 c1) W:=by kernel_rfl
theorem ixr1 (a b c:Option Addr) (n1 n2 n3 c1 c2 c3:Nat):(Instr.index 136 (.agg #[.slice a n1 c1,.slice b n2 c2,.slice c n3 c3]) (.int .i64 1)).run prog W= .ok (.slice b n2 c2) W:=by kernel_rfl
theorem ixr2 (a b c:Option Addr) (n1 n2 n3 c1 c2 c3:Nat):(Instr.index 136 (.agg #[.slice a n1 c1,.slice b n2 c2,.slice c n3 c3]) (.int .i64 2)).run prog W= .ok (.slice c n3 c3) W:=by kernel_rfl
end
def Mh (w1:World) (p:ao) (f:Nat) (v4 i:Value) (wr:World):Prop:=
 ∃k:Nat,k+f=3/\i= .int .i64 (k:Int)/\vv w1 (wL p++((mT p).take k).flatMap fX) v4 wr
theorem uA {s:bz} (h:cZ s=true):s.size<=40:=by
 unfold cZ at h;simp only [VN,Vu] at h;exact h.2
theorem xd {p:ao} (h:il p=true) (hk:p.kind=1):(p.fmt.size<=40/\p.n0.size<=40/\p.n1.size<=40)/\p.d0.length<=60/\p.d1.length<=60/\p.dr.length<=256:=by
 unfold il mK at h;simp [hk] at h;have h2:=h.2;unfold EN at h2;simp only [VN,Vu] at h2;obtain ⟨a,b,c,d,e,f,-⟩:=h2;exact ⟨⟨a,uA b,uA c⟩,d,e,f⟩
theorem tU {p:ao} (h:p.fmt.size<=40/\p.n0.size<=40/\p.n1.size<=40) (k:Nat):(wL p++((mT p).take k).flatMap fX).length<=200:=by
 unfold mT wL
 match k with
 |0=>simp [au]
 |1=>simp [au,fX,dm];omega
 |2=>simp [au,fX,dm];omega
 |k+3=>simp [au,fX,dm];omega
def lI (p:ao):List UInt8:=wL p++(mT p).flatMap fX
theorem oo {p:ao} (h:p.fmt.size<=40/\p.n0.size<=40/\p.n1.size<=40) (h2:p.d0.length<=60/\p.d1.length<=60/\p.dr.length<=256) (k:Nat):(lI p++((jo p).take k).flatMap iv).length<=3300:=by
 have h0:=tU h 3;rw [show (mT p).take 3=mT p from rfl] at h0;rw [laA];unfold lI jo
 match k with
 |0=>simp;simp at h0;omega
 |1=>simp [iW];simp at h0;omega
 |2=>simp [iW];simp at h0;omega
 |k+3=>simp [iW];simp at h0;omega
def Pf (w1:World) (p:ao) (f:Nat) (v4 i:Value) (wr:World):Prop:=
 ∃k:Nat,k+f=3/\i= .int .i64 (k:Int)/\vv w1 (lI p++((jo p).take k).flatMap iv) v4 wr
def Pg (w1:World) (H:List UInt8) (l:List Int) (N:Nat) (f:Nat) (v4 i:Value) (wr:World):Prop:=
 ∃k:Nat,k+f=N/\i= .int .i64 (k:Int)/\vv w1 (H++(l.take k).flatMap be8) v4 wr
def nw (w:World) (p:ao) (e:Ending) (w':World):Prop:=
 if il p=true then ∃a c,e= .returned (.tuple #[.slice a (bZ p).length c,.int .i64 0])/\Own w' w.heap.size 5 1 a (bZ p).length c ((bZ p).map bv)/\Below w.heap.size w w'
 else e= .returned (.tuple #[.slice none 0 0,.int .i64 2])/\Below w.heap.size w w'
theorem yV (p:ao) (h:aW) (w:World) (hd:dC w p h) (hz:(dq p.act).length<100000000000):
  Calls prog 28 #[dR p h] w (nw w p):=by
 obtain ⟨S,hS⟩:=Le (nw w p);rw [<-hS];have HS:=Hd hS;clear hS;rw [aH];go_enter func28,ntmps28;go_upto_region 1 with (fail);obtain ⟨X,hX⟩:=Le w.heap.size;rw [<-hX];refine af (fun W=>Blk W X (ak p h).toArray 40/\Below w.heap.size w W) ⟨by subst hX;exact Blk.new w _ _,by subst hX;exact cL⟩ ?_;rintro W1 ⟨hb1,hbw1⟩;have hXw:w.heap.size<=X:=VR hX.symm;clear hX;go_wp2_with (refine am rfl 40 aZ (.tmp 1) rfl rfl hb1 rfl ?_);have cb:=xA p h W1 (hd.old hbw1);rw [aH] at cb;refine cb.mono ?_;clear cb;rintro e w1 ⟨rfl,hb⟩;have hbw:=ae hbw1 hb;have hX1:=hb1.old hb;have hd1:=hd.old hbw;clear hb1 hbw1 hb;cases hm:il p with
 |false=>
  go_wp2_with fail;rw [HS.out];unfold nw;rw [hm];exact ⟨rfl,hbw⟩
 |true=>
  obtain ⟨kb,hkb⟩:∃kb:UInt8,kb=if p.kind=2 then 2 else 1:=⟨_,rfl⟩;have hkc:IntKind.u8.wrap p.kind=U8 kb:=by
   rw [hkb];rcases mu hm with e|e<;>rw [e]<;>rfl
  have hkc2:p.kind%256=U8 kb:=(by rw [<-hkc];rfl);have HKB:=Hd hkb;clear hkb;go_wp2_with fail;go_cut [4] (fun v4 wx=>vv w1 ([kb]++be8 p.game) v4 wx)
  case first=>
   have k0:∀W,od w1.heap.size w1.drew W->W.cell? ⟨X,0,none⟩=some (.int .i8 p.kind):=fun W hW=>(hX1.drew.below hW hX1.lt).cell rfl;have k1:∀W,od w1.heap.size w1.drew W->W.cell? ⟨X,1,none⟩=some (.int .i64 p.game):=fun W hW=>(hX1.drew.below hW hX1.lt).cell rfl;refine qG w1.heap.size (.step 0 (.step 1 (.step 2 (.step 4 (.step 5 (.fork [(3,(.step 6 (.step 7 (.step 8 .done)))),(6,(.step 3 (.step 7 (.step 8 .done))))])))))) krA krA cdA ?_
   repeat (first|refine tsA ?_|refine tqA ?_)
   refine kh ?_;refine iS rfl rfA (fun K hK=> ?_) ?_
   .go_wp2_with fail;have hO:Own (w1.alloc (.cells #[.int .u8 (U8 kb)] 5)) w1.heap.size 5 1 (some ⟨w1.heap.size,0,none⟩) 1 1 ([kb].map bv):=Own.lit _ _ _ rfl rfl (Lt _) mxA;refine hK _ _ cL ?_;clear hK K;refine an rfl rfl rfA (fun K hK=> ?_);go_wp2_with fail;refine (eD p.game _).mono ?_;rintro e w2 ⟨rfl,hr2,hb2,hl2⟩;have hz2:=hb2.size;simp at hz2;have hO2:=hO.drew.old hb2;have hr2:ah w2 (some ⟨w1.heap.size+1,0,none⟩) (be8 p.game):=(by simpa using hr2);go_wp2_with fail;refine hK _ _ cL ?_;clear hK K
    repeat (first|refine tsA ?_|refine tqA ?_)
    refine an rfl rfl rfA (fun K hK=> ?_);refine eh (.tmp 17) (.tmp 20) 22 rfl eF rfl hO2 rfl hr2 (by rw [lmA,au]) (cO _) mxA oA lA ?_;intro a' c' w3 hO3 hg3;have hb3:Below w1.heap.size w1 w3:=hO2.grown cL (Lt _) hg3 lA;refine hK _ _ (by show Below _ _ _;exact hO2.grown (AT _ _) (Lt _) hg3 lA) ?_;clear hK K
    repeat (first|refine tsA ?_|refine tqA ?_)
    refine ap ?_;go_wp2_with fail;go_meet;exact ⟨a',9,c',rfl,by simp [au],by simpa using hO3,hb3⟩
   .refine iS rfl rfA (fun K hK=> ?_) ?_
    .go_wp2_with fail;refine (eD p.game _).mono ?_;rintro e w2 ⟨rfl,hr2,hb2,hl2⟩;have hz2:=hb2.size;simp at hz2;go_wp2_with fail;refine hK _ _ cL ?_;clear hK K;refine an rfl rfl rfA (fun K hK=> ?_);go_wp2_with fail;have hO2:Own (w2.alloc (.cells #[.int .u8 (U8 kb)] 5)) w1.heap.size 5 1 (some ⟨w2.heap.size,0,none⟩) 1 1 ([kb].map bv):=Own.lit _ _ _ rfl rfl oA mxA;have hr3:ah (w2.alloc (.cells #[.int .u8 (U8 kb)] 5)) (some ⟨w1.heap.size,0,none⟩) (be8 p.game):=aw.alloc hr2 _;refine hK _ _ cL ?_;clear hK K;refine an rfl rfl rfA (fun K hK=> ?_);refine eh (.tmp 17) (.tmp 20) 22 rfl eF rfl hO2 rfl hr3 (by rw [lmA,au]) (cO _) mxA oA lA ?_;intro a' c' w3 hO3 hg3;have hb3:Below w1.heap.size w1 w3:=hO2.grown cL (Lt _) hg3 lA;refine hK _ _ (by show Below _ _ _;exact hO2.grown (AT _ _) (Lt _) hg3 lA) ?_;clear hK K
     repeat (first|refine tsA ?_|refine tqA ?_)
     refine ap ?_;go_wp2_with fail;go_meet;exact ⟨a',9,c',rfl,by simp [au],by simpa using hO3,hb3⟩
    .exact lX
  case rest=>
   obtain ⟨a4,n4,c4,rfl,hn4,ho4,hb4⟩:=hcut;have hX4:=hX1.old hb4;have hd4:=hd1.old hb4;have hz4:n4=9:=(by rw [<-hn4];simp [au]);rcases mu hm with hk|hk
   .obtain ⟨⟨q0a,q0n,q0c⟩,⟨q1a,q1n,q1c⟩,⟨q2a,q2n,q2c⟩,ha⟩:=h;have hkb:kb=1:=(by rw [HKB.out,if_neg (by rw [hk];decide)]);have HK:=Hd hk;have k0:wc.cell? ⟨X,0,none⟩=some (.int .i8 1):=(by rw [<-hk];exact hX4.cell rfl);have k2:wc.cell? ⟨X,2,none⟩=some (.int .i64 p.table):=hX4.cell rfl;have HZ:=Hd (xd hm hk);have HN:=Hd hz4;clear hz4 hk;go_wp2_with fail;refine (eD p.table _).mono ?_;rintro e w5 ⟨rfl,hr5,hb5,hl5⟩;have hz5:=hb5.size;have hz41:=hb4.size;go_upto_region 7 with (at_builtin;refine al rfl _ _ 22 rfl eF rfl (ho4.old hb5) rfl hr5 (by rw [lmA,au]) (cO _) (by have:=HN.out;unfold maxLen;omega) (by have:=HN.out;omega) oA ?_;intro a6 c6 w6 ho6 hg6);have hst:=vv.app (m:=be8 p.table) (k:=8) hn4 (au _) ho4 hb4 hb5 ho6 hg6;rw [hkb] at hst;have hb6:=ae hb4 hb5;have hX6:Blk w6 X (ak p ⟨⟨q0a,q0n,q0c⟩,⟨q1a,q1n,q1c⟩,⟨q2a,q2n,q2c⟩,ha⟩).toArray 40:=by
     obtain ⟨_,_,_,_,_,_,hb⟩:=hst;exact hX1.old hb
    have l3:w6.cell? ⟨X,3,none⟩=some (.string p.fmt):=hX6.cell rfl;have l4:w6.cell? ⟨X,4,none⟩=some (.string p.n0):=hX6.cell rfl;have l5:w6.cell? ⟨X,5,none⟩=some (.string p.n1):=hX6.cell rfl;have i0:=fun W=>ixs0 W p.fmt p.n0 p.n1;have i1:=fun W=>ixs1 W p.fmt p.n0 p.n1;have i2:=fun W=>ixs2 W p.fmt p.n0 p.n1;have HSt:=Hd hst;clear hst ho6 hg6 ho4 hb4 hb5 hr5 hl5 hn4 k0 k2 hX4 hX6;go_wp2_with fail;go_loopg [4,6,44,45,46,47,48,49,50,51,52,53,54] 3 (fun f v4 _ i _ _ _ _ _ _ _ _ _ _ wr=>Mh w1 p f v4 i wr)
    case atStart=>exact ⟨0,oA,rfl,by have h:=HSt.out;simpa [wL] using h⟩
    case round=>
     obtain ⟨k,hf,rfl,a7,n7,c7,rfl,hn7,ho7,hb7⟩:=hrel;have HF:=Hd hf;have hz7:n7<=200:=(by rw [<-hn7];exact tU HZ.out.1 k);have HN7:=Hd hn7;clear hf hn7;by_cases hk:k<3
     .have h3:k=0\/k=1\/k=2:=oA;have hz71:=hb7.size;rcases h3 with rfl|rfl|rfl
      all_goals
       go_wp2_with fail
       refine (eD _ _).mono ?_
       rintro e w8 ⟨rfl,hr8,hb8,hl8⟩
       have hz8:=hb8.size
       have hsz:=HZ.out.1
       go_wp2_with (first|(at_builtin;refine al rfl _ _ 22 rfl eF rfl (ho7.old hb8) rfl hr8 (by rw [lmA,au]) (cO _) mxA oA oA ?_;intro a9 c9 w9 ho9 hg9)|(at_builtin;refine mO rfl _ _ 22 9 rfl eF krA underlying9 rfl ho9 rfl oA (by have:=hg9.size;omega) ?_;intro a10 c10 w10 ho10 hg10))
       have q1:=vv.app (m:=be8 _) (k:=8) HN7.out (au _) ho7 hb7 hb8 ho9 hg9
       obtain ⟨_,_,_,e1,hn9,ho9',hb9⟩:=q1
       simp only [VC] at e1
       obtain ⟨rfl,rfl,rfl⟩:=e1
       have q2:=vv.app (m:=jW _) hn9 (dm _) ho9' hb9 (AT _ _) (by rw [VG];exact ho10) hg10
       go_wp2_with fail
       go_roundg (gk-1)
       case measure=>have:=HF.out;omega
       case rel=>
        first
         |(refine ⟨1,by have:=HF.out;omega,gnA,?_⟩;simpa [mT,fX] using q2)
         |(refine ⟨2,by have:=HF.out;omega,gnA,?_⟩;simpa [mT,fX] using q2)
         |(refine ⟨3,by have:=HF.out;omega,gnA,?_⟩;simpa [mT,fX] using q2)
     .have hk3:k=3:=(by have:=HF.out;omega);have tk:decide ((k:Int)<3)=false:=soA;have HN8:=Hd HN7.out;rw [hk3] at HN8 ho7;clear HN7;have HN7:=HN8;clear HN8;have HK3:=Hd hk3;clear hk3;have hin:=DB.of hd1;have hX7:=hX1.old hb7;have l6:wr.cell? ⟨X,6,none⟩=some (.slice q0a q0n q0c):=hX7.cell rfl;have l7:wr.cell? ⟨X,7,none⟩=some (.slice q1a q1n q1c):=hX7.cell rfl;have l8:wr.cell? ⟨X,8,none⟩=some (.slice q2a q2n q2c):=hX7.cell rfl;have j0:=fun W=>ixr0 W q0a q1a q2a q0n q1n q2n q0c q1c q2c;have j1:=fun W=>ixr1 W q0a q1a q2a q0n q1n q2n q0c q1c q2c;have j2:=fun W=>ixr2 W q0a q1a q2a q0n q1n q2n q0c q1c q2c;clear i0 i1 i2 l3 l4 l5;go_wp2_with fail;go_loopg [4,8,10,64,65,66,67,68,69,70,71,72,73,74,75,76,77,78,79,80,81,82,83] 3 (fun f v4 _ _ i _ _ _ _ _ _ _ _ _ _ _ _ _ _ _ _ _ _ _ wr=>Pf w1 p f v4 i wr)
      case atStart=>exact ⟨0,oA,rfl,a7,n7,c7,rfl,by rw [<-HN7.out];simp [lI,mT],by simpa [lI,mT] using ho7,hb7⟩
      case round=>
       clear hX7 l6 l7 l8 ho7 hb7 HN7 hz7;obtain ⟨k,hf,rfl,a7,n7,c7,rfl,hn7,ho7,hb7⟩:=hrel;have HF:=Hd hf;have hz7:n7<=3300:=(by rw [<-hn7];exact oo HZ.out.1 HZ.out.2 k);have HN7:=Hd hn7;clear hf hn7;by_cases hk:k<3
       .have h3:k=0\/k=1\/k=2:=oA;have hz71:=hb7.size;rcases h3 with rfl|rfl|rfl
        .have hrow:mI w1 ⟨q0a,q0n,q0c⟩ p.d0:=hd1.d0;have hlow:InB w1.heap.size q0a q0n:=hin.d0;have hrl:p.d0.length=q0n:=hrow.2.1;have hq256:q0n<=256:=(by have:=HZ.out.2;omega);have HRL:=Hd hrl;clear hrl;go_wp2_with fail;refine (eD _ _).mono ?_;rintro e w8 ⟨rfl,hr8,hb8,hl8⟩;have hz8:=hb8.size;go_upto_region 16 with (at_builtin;refine al rfl _ _ 22 rfl eF rfl (ho7.old hb8) rfl hr8 (by rw [lmA,au]) (cO _) mxA oA oA ?_;intro a9 c9 w9 ho9 hg9);have q1:=Hd (vv.app (m:=be8 (q0n:Int)) (k:=8) HN7.out (au _) ho7 hb7 hb8 ho9 hg9);clear ho9 hg9 ho7 hb7 hb8 hr8 hl8;go_wp2_with fail;go_loopg [4,10,74,75,76,77,78,79,80,81,82] q0n (fun f v4 _ i _ _ _ _ _ _ _ _ wr=>Pg w1 (lI p++((jo p).take 0).flatMap iv++be8 (q0n:Int)) p.d0 q0n f v4 i wr)
         case atStart=>exact ⟨0,oA,rfl,by have h:=q1.out;simpa using h⟩
         case round=>
          clear q1;obtain ⟨j,hf3,rfl,a11,n11,c11,rfl,hn11,ho11,hb11⟩:=hrel;have HF3:=Hd hf3;have hz11:n11<=3308+8*j:=by
           rw [<-hn11,laA,laA,au];have e1:=oo HZ.out.1 HZ.out.2 0;have e2:((p.d0.take j).flatMap be8).length<=8*j:=by
            rw [kv au,ltA];omega
           omega
          have HN11:=Hd hn11;clear hf3 hn11;by_cases hj:j<q0n
          .have tj:decide ((j:Int)<(q0n:Int))=true:=soA;have hjl:j<p.d0.length:=(by rw [HRL.out];exact hj);have hrow3:iO wr q0a q0n q0c p.d0:=mI.low hrow hlow hb11;obtain ⟨b1,o1,e1,hcell⟩:=hrow3.1 j (by rw [lmA];exact hjl);rw [Wz] at hcell;clear hrow3;subst e1;have hz111:=hb11.size;go_wp2_with fail;refine (eD _ _).mono ?_;rintro e w12 ⟨rfl,hr12,hb12,hl12⟩;have hz12:=hb12.size;go_upto_region 20 with (at_builtin;refine al rfl _ _ 22 rfl eF rfl (ho11.old hb12) rfl hr12 (by rw [lmA,au]) (cO _) mxA oA oA ?_;intro a13 c13 w13 ho13 hg13);have q3:=Hd (vv.app (m:=be8 p.d0[j]) (k:=8) HN11.out (au _) ho11 hb11 hb12 ho13 hg13);clear ho13 hg13 ho11 hb11 hb12 hr12 hl12 hcell;go_wp2_with fail;go_roundg (gk-1)
           case measure=>have:=HF3.out;omega
           case rel=>
            refine ⟨j+1,by have:=HF3.out;omega,gnA,?_⟩;rw [VW hjl,Ww,<-VM];simpa using q3.out
          .obtain rfl:j=q0n:=(by have:=HF3.out;omega);have tj:decide ((j:Int)<(j:Int))=false:=skA;have hall:p.d0.take j=p.d0:=Vj (by rw [HRL.out];omega);have hn11:=HN11.out;rw [hall] at hn11 ho11;have HN12:=Hd hn11;clear hn11;go_wp2_with fail;go_roundg (3-1)
           case measure=>have:=HF.out;omega
           case rel=>
            have e5:lI p++((jo p).take 1).flatMap iv=lI p++((jo p).take 0).flatMap iv++be8 (j:Int)++p.d0.flatMap be8:=by
             simp [jo,iv,HRL.out]
            exact ⟨1,oA,gnA,a11,n11,c11,rfl,by rw [e5];exact HN12.out,by rw [e5];exact ho11,hb11⟩
        .have hrow:mI w1 ⟨q1a,q1n,q1c⟩ p.d1:=hd1.d1;have hlow:InB w1.heap.size q1a q1n:=hin.d1;have hrl:p.d1.length=q1n:=hrow.2.1;have hq256:q1n<=256:=(by have:=HZ.out.2;omega);have HRL:=Hd hrl;clear hrl;go_wp2_with fail;refine (eD _ _).mono ?_;rintro e w8 ⟨rfl,hr8,hb8,hl8⟩;have hz8:=hb8.size;go_upto_region 16 with (at_builtin;refine al rfl _ _ 22 rfl eF rfl (ho7.old hb8) rfl hr8 (by rw [lmA,au]) (cO _) mxA oA oA ?_;intro a9 c9 w9 ho9 hg9);have q1:=Hd (vv.app (m:=be8 (q1n:Int)) (k:=8) HN7.out (au _) ho7 hb7 hb8 ho9 hg9);clear ho9 hg9 ho7 hb7 hb8 hr8 hl8;go_wp2_with fail;go_loopg [4,10,74,75,76,77,78,79,80,81,82] q1n (fun f v4 _ i _ _ _ _ _ _ _ _ wr=>Pg w1 (lI p++((jo p).take 1).flatMap iv++be8 (q1n:Int)) p.d1 q1n f v4 i wr)
         case atStart=>exact ⟨0,oA,rfl,by have h:=q1.out;simpa using h⟩
         case round=>
          clear q1;obtain ⟨j,hf3,rfl,a11,n11,c11,rfl,hn11,ho11,hb11⟩:=hrel;have HF3:=Hd hf3;have hz11:n11<=3308+8*j:=by
           rw [<-hn11,laA,laA,au];have e1:=oo HZ.out.1 HZ.out.2 1;have e2:((p.d1.take j).flatMap be8).length<=8*j:=by
            rw [kv au,ltA];omega
           omega
          have HN11:=Hd hn11;clear hf3 hn11;by_cases hj:j<q1n
          .have tj:decide ((j:Int)<(q1n:Int))=true:=soA;have hjl:j<p.d1.length:=(by rw [HRL.out];exact hj);have hrow3:iO wr q1a q1n q1c p.d1:=mI.low hrow hlow hb11;obtain ⟨b1,o1,e1,hcell⟩:=hrow3.1 j (by rw [lmA];exact hjl);rw [Wz] at hcell;clear hrow3;subst e1;have hz111:=hb11.size;go_wp2_with fail;refine (eD _ _).mono ?_;rintro e w12 ⟨rfl,hr12,hb12,hl12⟩;have hz12:=hb12.size;go_upto_region 20 with (at_builtin;refine al rfl _ _ 22 rfl eF rfl (ho11.old hb12) rfl hr12 (by rw [lmA,au]) (cO _) mxA oA oA ?_;intro a13 c13 w13 ho13 hg13);have q3:=Hd (vv.app (m:=be8 p.d1[j]) (k:=8) HN11.out (au _) ho11 hb11 hb12 ho13 hg13);clear ho13 hg13 ho11 hb11 hb12 hr12 hl12 hcell;go_wp2_with fail;go_roundg (gk-1)
           case measure=>have:=HF3.out;omega
           case rel=>
            refine ⟨j+1,by have:=HF3.out;omega,gnA,?_⟩;rw [VW hjl,Ww,<-VM];simpa using q3.out
          .obtain rfl:j=q1n:=(by have:=HF3.out;omega);have tj:decide ((j:Int)<(j:Int))=false:=skA;have hall:p.d1.take j=p.d1:=Vj (by rw [HRL.out];omega);have hn11:=HN11.out;rw [hall] at hn11 ho11;have HN12:=Hd hn11;clear hn11;go_wp2_with fail;go_roundg (3-2)
           case measure=>have:=HF.out;omega
           case rel=>
            have e5:lI p++((jo p).take 2).flatMap iv=lI p++((jo p).take 1).flatMap iv++be8 (j:Int)++p.d1.flatMap be8:=by
             simp [jo,iv,HRL.out]
            exact ⟨2,oA,gnA,a11,n11,c11,rfl,by rw [e5];exact HN12.out,by rw [e5];exact ho11,hb11⟩
        .have hrow:mI w1 ⟨q2a,q2n,q2c⟩ p.dr:=hd1.dr;have hlow:InB w1.heap.size q2a q2n:=hin.dr;have hrl:p.dr.length=q2n:=hrow.2.1;have hq256:q2n<=256:=(by have:=HZ.out.2;omega);have HRL:=Hd hrl;clear hrl;go_wp2_with fail;refine (eD _ _).mono ?_;rintro e w8 ⟨rfl,hr8,hb8,hl8⟩;have hz8:=hb8.size;go_upto_region 16 with (at_builtin;refine al rfl _ _ 22 rfl eF rfl (ho7.old hb8) rfl hr8 (by rw [lmA,au]) (cO _) mxA oA oA ?_;intro a9 c9 w9 ho9 hg9);have q1:=Hd (vv.app (m:=be8 (q2n:Int)) (k:=8) HN7.out (au _) ho7 hb7 hb8 ho9 hg9);clear ho9 hg9 ho7 hb7 hb8 hr8 hl8;go_wp2_with fail;go_loopg [4,10,74,75,76,77,78,79,80,81,82] q2n (fun f v4 _ i _ _ _ _ _ _ _ _ wr=>Pg w1 (lI p++((jo p).take 2).flatMap iv++be8 (q2n:Int)) p.dr q2n f v4 i wr)
         case atStart=>exact ⟨0,oA,rfl,by have h:=q1.out;simpa using h⟩
         case round=>
          clear q1;obtain ⟨j,hf3,rfl,a11,n11,c11,rfl,hn11,ho11,hb11⟩:=hrel;have HF3:=Hd hf3;have hz11:n11<=3308+8*j:=by
           rw [<-hn11,laA,laA,au];have e1:=oo HZ.out.1 HZ.out.2 2;have e2:((p.dr.take j).flatMap be8).length<=8*j:=by
            rw [kv au,ltA];omega
           omega
          have HN11:=Hd hn11;clear hf3 hn11;by_cases hj:j<q2n
          .have tj:decide ((j:Int)<(q2n:Int))=true:=soA;have hjl:j<p.dr.length:=(by rw [HRL.out];exact hj);have hrow3:iO wr q2a q2n q2c p.dr:=mI.low hrow hlow hb11;obtain ⟨b1,o1,e1,hcell⟩:=hrow3.1 j (by rw [lmA];exact hjl);rw [Wz] at hcell;clear hrow3;subst e1;have hz111:=hb11.size;go_wp2_with fail;refine (eD _ _).mono ?_;rintro e w12 ⟨rfl,hr12,hb12,hl12⟩;have hz12:=hb12.size;go_upto_region 20 with (at_builtin;refine al rfl _ _ 22 rfl eF rfl (ho11.old hb12) rfl hr12 (by rw [lmA,au]) (cO _) mxA oA oA ?_;intro a13 c13 w13 ho13 hg13);have q3:=Hd (vv.app (m:=be8 p.dr[j]) (k:=8) HN11.out (au _) ho11 hb11 hb12 ho13 hg13);clear ho13 hg13 ho11 hb11 hb12 hr12 hl12 hcell;go_wp2_with fail;go_roundg (gk-1)
           case measure=>have:=HF3.out;omega
           case rel=>
            refine ⟨j+1,by have:=HF3.out;omega,gnA,?_⟩;rw [VW hjl,Ww,<-VM];simpa using q3.out
          .obtain rfl:j=q2n:=(by have:=HF3.out;omega);have tj:decide ((j:Int)<(j:Int))=false:=skA;have hall:p.dr.take j=p.dr:=Vj (by rw [HRL.out];omega);have hn11:=HN11.out;rw [hall] at hn11 ho11;have HN12:=Hd hn11;clear hn11;go_wp2_with fail;go_roundg (3-3)
           case measure=>have:=HF.out;omega
           case rel=>
            have e5:lI p++((jo p).take 3).flatMap iv=lI p++((jo p).take 2).flatMap iv++be8 (j:Int)++p.dr.flatMap be8:=by
             simp [jo,iv,HRL.out]
            exact ⟨3,oA,gnA,a11,n11,c11,rfl,by rw [e5];exact HN12.out,by rw [e5];exact ho11,hb11⟩
       .obtain rfl:k=3:=(by have:=HF.out;omega);have HE:=Hd (show bZ p=lI p++(jo p).flatMap iv by rw [vf HK.out];rfl);have hn7:=HN7.out;rw [show (jo p).take 3=jo p from rfl,<-HE.out] at hn7 ho7;go_wp2_with fail;rw [HS.out];unfold nw;rw [if_pos hm,hn7];exact ⟨a7,c7,rfl,ho7.lower hbw.size,ae hbw hb7⟩
   .have hkb:kb=2:=(by rw [HKB.out,if_pos hk]);have k0:wc.cell? ⟨X,0,none⟩=some (.int .i8 2):=(by rw [<-hk];exact hX4.cell rfl);have HE:=Hd (show bZ p=[kb]++be8 p.game++dq p.act by unfold bZ;rw [if_pos hk,hkb]);have HN:=Hd hz4;clear hz4;have cb:=Aq wc p.act h.act hd4.act hz;rw [ed] at cb;go_wp2_with (refine dk rfl 38 GK (.tmp 26) rfl rfl hX4 (part:=ay p.act h.act) rfl rfl ?_);refine cb.mono ?_;clear cb;rintro e w5 ⟨a5,c5,rfl,ho5,hb5⟩;obtain ⟨n5,hn5⟩:∃n5,(dq p.act).length=n5:=⟨_,rfl⟩;rw [hn5] at ho5 hz⊢;have hz5:=hb5.size;have hz41:=hb4.size;go_wp2_with (at_builtin;refine al rfl _ _ 22 rfl eF rfl (ho4.old hb5) rfl ho5.row (by rw [lmA,hn5,Vk]) (cO _) (by have:=HN.out;unfold maxLen;omega) (by have:=HN.out;omega) oA ?_);intro a6 c6 w6 ho6 hg6;obtain ⟨a7,n7,c7,he7,hn7,ho7,hb7⟩:=vv.app hn4 hn5 ho4 hb4 hb5 (by rw [hkb];exact ho6) hg6;rw [he7];clear he7;rw [<-HE.out] at hn7 ho7;go_wp2_with fail;rw [HS.out];unfold nw;rw [if_pos hm,hn7];refine ⟨a7,c7,rfl,ho7.lower hbw.size,ae hbw hb7⟩
end
end Go.Proofs.YtioigihakjlopaaGreat
