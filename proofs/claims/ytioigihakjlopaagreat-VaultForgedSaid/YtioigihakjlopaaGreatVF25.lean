import Derived.Test.YtioigihakjlopaaGreatVF24
import Derived.Shelf.Abstract
namespace Go.Proofs.YtioigihakjlopaaGreat
open Go.Proofs.Tryz
set_option linter.unusedVariables false
set_option linter.unusedSimpArgs false
set_option maxHeartbeats 16000000
set_option maxRecDepth 100000
section
open Go.RowKit Go.Maps Go.Shelf
theorem ct.pre {B:Nat} {w0 w w':World} {r r':aF} (hb:Below w0.heap.size w0 w) (h:ct B w r w' r'):ct B w0 r w' r':=
 ⟨(aJ.of_below hb).trans h.turn (fun _ hk=> .inl hk),h.at',fun x hx=>(h.foot' x hx).imp id fun hx=>At hb.size hx,h.d⟩
theorem ct.post {B:Nat} {w w' w'':World} {r r':aF} (h:ct B w r w' r') (hb:Below w'.heap.size w' w''):ct B w r w'' r':=
 ⟨h.turn.trans (aJ.of_below (F:=eM r) hb) (fun _ hk=> .inl hk),h.at'.old hb,h.foot',h.d⟩
theorem ct.quiet {B:Nat} {w w':World} {r:aF} (h:aG w B r) (hb:Below w.heap.size w w'):ct B w r w' r:=(ct.refl h).post hb
theorem Dm (args:Array Value) (w:World):(callFunc 61 args).run prog w= .ok (.enter 61 args) w:=enters_of func61 krA rfl args w
theorem rQ (w:World) (B:Nat) (r:aF) (nm:bz) (h:aG w B r) (hB:B<=w.heap.size) (hs:nm.size<=maxLen) (a:Option Addr) (len cap:Nat) (l:List UInt8) (hl:ah w a l) (hlen:l.length=len) (hcl:len<=maxLen):
  Calls prog 16 #[.pointer (some ⟨r.d,0,none⟩),.string nm,.slice a len cap] w fun e w'=>e= .returned (.int .i64 (bt r.p nm l).2)/\∃r',r'.p=(bt r.p nm l).1/\ct B w r w' r':=by
 have HL:=Hd hlen;clear hlen;have hmf:∀(fn:Fn) (first cap:Array Value) (w:World),(Instr.makeFunc fn first cap).run prog w= .ok (.func fn first cap) w:=fun _ _ _ _=>rfl;have hb2:Below w.heap.size w ((w.alloc (.cells #[.pointer (some ⟨r.d,0,none⟩)] 26)).alloc (.cells #[.slice a len cap] 22)):=((AT _ _).alloc (Lt _) _).alloc skA _;have h2:=h.old hb2;go_enter func16,ntmps16;go_wp2_with fail;refine (sV h2 hs 61 _ Dm (rT B w r nm l) ?_ ?_ ?_).mono ?_
 .intro hdn;have e:bt r.p nm l=(r.p,5):=(by simp [bt,lH,aF.p,hdn]);unfold rT;rw [e];exact ⟨rfl,r,rfl,ct.quiet h hb2⟩
 .intro hdn hno;have e:bt r.p nm l=(r.p,4):=(by unfold bt lH;rw [oH hno];simp [aF.p,hdn]);unfold rT;rw [e];exact ⟨rfl,r,rfl,ct.quiet h hb2⟩
 .intro f hf hn hdn;subst hn;refine (xf _ B r f h2 (At hB hb2.size) hdn hf _ _ a len cap l (Blk.new2' _ _ _ _) (Blk.new2 _ _ _ _) (hl.below hb2) HL.out hcl).mono ?_;rintro e w1 ⟨v,rfl,hv,r',hr',hs'⟩;exact ⟨v,rfl,hv,r',hr',hs'.pre hb2⟩
 .rintro e w1 ⟨v,rfl,hv,r',hr',hs'⟩;go_wp2_with fail;go_ret;refine ⟨?_,r',hr',hs'⟩;rw [<-hv];rfl
def ny (B:Nat) (w:World) (r:aF) (nm:bz) (v:Int) (w':World):Prop:=v=(eL r.p nm).2/\∃r',r'.p=(eL r.p nm).1/\ct B w r w' r'
theorem Ba {w:World} {B:Nat} {r:aF} {f:bJ} (h:aG w B r) (hf:f∈r.fs):ct B w r (w.setCell ⟨f.blk,1,none⟩ (.int .i64 (f.b.length:Int))) {r with fs:=nS r.fs f.nm fun f=>{f with sure:=f.b.length}}:=by
 have hfa:=h.files f hf;have hsame:∀g∈r.fs,g.nm=f.nm->g=f:=fun g hg e=>h.same hg hf e;have hk:∀x,x≠f.blk->(w.setCell ⟨f.blk,1,none⟩ (.int .i64 (f.b.length:Int))).heap[x]? =w.heap[x]? :=fun x h1=>VU _ _ _ _ h1;refine ⟨(aJ.refl _ _).setCell (.inl (.inr (.inr (.inl ⟨f,hf,.inl rfl⟩)))) _,?_,?_,rfl⟩
 .refine h.upd f.nm (fun f=>{f with sure:=f.b.length}) (fun _ _=>⟨rfl,rfl⟩) (hk _ (Vf (h.ne_file hf))) (hk _ (Vf (h.ne_map hfa.blk))) (fun x hx=>hk _ (h.ne_plan hx hfa.blk dcA)) ?_ ?_ ?_ ?_
  .intro g hg hgn;exact ⟨hk _ (Vf (h.apart' hf hg (Vf hgn)).1),fun x hx=>hk _ (h.ne_row hg hx hfa.blk dcA)⟩
  .intro g hg hgn;obtain rfl:=hsame g hg hgn;exact ⟨hfa.blk.set 1 _,hfa.ge,hfa.row.setCell hfa.blk dcA 1 _⟩
  .intro g hg hgn g2 hg2 hgn2 x hx;obtain rfl:=hsame g hg hgn;exact (h.apart' hf hg2 (Vf hgn2)).2 x hx
  .have hp5:aF.p {r with fs:=nS r.fs f.nm fun f=>{f with sure:=f.b.length}}=jQ r.p f.nm (fun f=>{f with sure:=f.b.length}):=by
    simp only [aF.p,jQ];rw [ph _ _ _ (fun f=>{f with sure:=f.b.length}) (fun _ _ _=>rfl)]
   show dN (aF.p {r with fs:=nS r.fs f.nm fun f=>{f with sure:=f.b.length}});rw [hp5];exact h.ok.upd f.nm _ (fun _ _=>rfl) (fun g hg _=>Lt _) (fun g hg _=>h.ok.size g hg)
 .rintro x (hx|hx|⟨g,hg1,hx⟩|hx)
  .exact .inl (.inl hx)
  .exact .inl (.inr (.inl hx))
  .obtain ⟨g0,hg0,⟨e,rfl⟩|⟨e,rfl⟩⟩:=ol hg1
   .exact .inl (.inr (.inr (.inl ⟨g0,hg0,hx⟩)))
   .exact .inl (.inr (.inr (.inl ⟨_,hg0,hx⟩)))
  .exact .inl (.inr (.inr (.inr hx)))
theorem AZ (w:World) (B:Nat) (r:aF) (f:bJ) (h:aG w B r) (hB:B<=w.heap.size) (hdn:r.down=false) (hf:f∈r.fs) (bd:Nat)
  (hbd:Blk w bd #[.pointer (some ⟨r.d,0,none⟩)] 26):
  Calls prog 137 #[.pointer (some ⟨f.blk,0,none⟩),.pointer (some ⟨bd,0,none⟩)] w fun e w'=>∃v,e= .returned (.int .i64 v)/\ny B w r f.nm v w':=by
 have HDN:=Hd hdn;clear hdn;have hfp:=Hd (oG h hf);have c0:=hbd.rule;go_enter func137,ntmps137;go_wp2_with fail;refine (yy _ B _ h hB HDN.out).mono ?_;rintro e w1 ⟨rfl,r1,hr1,hs1,hz1⟩;clear c0;have HE:=Hd (show eL r.p f.nm=if (dz r.p).2=0 then (jQ (dz r.p).1 f.nm fun f=>{f with sure:=f.b.length},0) else dz r.p by
  unfold eL lH;rw [hfp.out];simp [aF.p,HDN.out])
 by_cases hg:(dz r.p).2=0
 .have hfs1:=hz1 hg;have hf1:f∈r1.fs:=(by rw [hfs1];exact hf);have hfa1:=hs1.at'.files f hf1;have c1:=hfa1.blk.rule;have c2:=hfa1.blk.free;have HG:=Hd hg;clear hz1;go_wp2_with fail;go_ret;refine ⟨0,rfl,?_⟩;unfold ny;rw [HE.out,if_pos HG.out];have hst:=Ba hs1.at' hf1;refine ⟨rfl,_,?_,hs1.trans hst⟩;rw [<-hr1];simp only [aF.p,jQ];rw [ph _ _ _ (fun f=>{f with sure:=f.b.length}) (fun _ _ _=>rfl)]
 .go_wp2_with fail;go_ret;refine ⟨_,rfl,?_⟩;unfold ny;rw [HE.out,if_neg hg];exact ⟨rfl,r1,hr1,hs1⟩
theorem zh (args:Array Value) (w:World):(callFunc 137 args).run prog w= .ok (.enter 137 args) w:=enters_of func137 krA rfl args w
theorem xG (w:World) (B:Nat) (r:aF) (nm:bz) (h:aG w B r) (hB:B<=w.heap.size) (hs:nm.size<=maxLen):
  Calls prog 106 #[.pointer (some ⟨r.d,0,none⟩),.string nm] w fun e w'=>e= .returned (.int .i64 (eL r.p nm).2)/\∃r',r'.p=(eL r.p nm).1/\ct B w r w' r':=by
 have hmf:∀(fn:Fn) (first cap:Array Value) (w:World),(Instr.makeFunc fn first cap).run prog w= .ok (.func fn first cap) w:=fun _ _ _ _=>rfl;have hb2:Below w.heap.size w (w.alloc (.cells #[.pointer (some ⟨r.d,0,none⟩)] 26)):=(AT _ _).alloc (Lt _) _;have h2:=h.old hb2;go_enter func106,ntmps106;go_wp2_with fail;refine (sV h2 hs 137 _ zh (ny B w r nm) ?_ ?_ ?_).mono ?_
 .intro hdn;have e:eL r.p nm=(r.p,5):=(by simp [eL,lH,aF.p,hdn]);unfold ny;rw [e];exact ⟨rfl,r,rfl,ct.quiet h hb2⟩
 .intro hdn hno;have e:eL r.p nm=(r.p,4):=(by unfold eL lH;rw [oH hno];simp [aF.p,hdn]);unfold ny;rw [e];exact ⟨rfl,r,rfl,ct.quiet h hb2⟩
 .intro f hf hn hdn;subst hn;refine (AZ _ B r f h2 (At hB hb2.size) hdn hf _ (Blk.new _ _ _)).mono ?_;rintro e w1 ⟨v,rfl,hv,r',hr',hs'⟩;exact ⟨v,rfl,hv,r',hr',hs'.pre hb2⟩
 .rintro e w1 ⟨v,rfl,hv,r',hr',hs'⟩;go_wp2_with fail;go_ret;refine ⟨?_,r',hr',hs'⟩;rw [<-hv];rfl
end
section
def stp (r:BitVec 32):BitVec 32:=(r>>>1)^^^(0xedb88320#32&&& -(r&&&1#32))
def Hm:Nat->BitVec 32->BitVec 32
 |0,r=>r
 |k+1,r=>stp (Hm k r)
def Lv (r:BitVec 32) (c:UInt8):BitVec 32:=Hm 8 (r^^^c.toBitVec.setWidth 32)
def nZ (r:BitVec 32) (l:List UInt8):BitVec 32:=l.foldl Lv r
def more (s:BitVec 32) (l:List UInt8):BitVec 32:= ~~~(nZ (~~~s) l)
theorem zY (r:BitVec 32) (l:List UInt8) (c:UInt8):nZ r (l++ [c])=Lv (nZ r l) c:=by simp [nZ]
theorem zX (r:BitVec 32) (l:List UInt8) (k:Nat) (h:k<l.length):nZ r (l.take (k+1))=Lv (nZ r (l.take k)) l[k]:=by
 rw [VW h,zY]
def le4 (s:BitVec 32):List UInt8:=[⟨s.setWidth 8⟩,⟨(s>>>8).setWidth 8⟩,⟨(s>>>16).setWidth 8⟩,⟨(s>>>24).setWidth 8⟩]
end
section
open Go.RowKit
theorem Lp (r:BitVec 32):U32 r/(2:Int)=U32 (r>>>1):=nx r 1
theorem shr1 (r:BitVec 32):BitVec.ofInt 32 (U32 r/2)=r>>>1:=by rw [show (2:Int)=((2^1:Nat):Int) from rfl,nx,gh]
theorem KZ (r:BitVec 32):BitVec.ofInt 32 (-U32 r%4294967296)= -r:=by rw [JI,gh]
attribute [local go_sem] gX gY iK gh gJ shr1 KZ pN
theorem DS (r:BitVec 32) (w:World):
  Calls prog 163 #[.int .u32 (U32 r)] w fun e w'=>e= .returned (.int .u32 (U32 (stp r)))/\w=w':=by
 go_enter func163,ntmps163;go_wp2;go_ret;exact ⟨rfl,rfl⟩
theorem Fj (r:BitVec 32) (c:UInt8) (b:Nat) (w:World)
  (hc:w.cell? ⟨b,0,none⟩=some (.int .u32 (U32 r))) (hf:w.frozen? ⟨b,0,none⟩=false):
  Calls prog 162 #[.int .u8 (U8 c),.pointer (some ⟨b,0,none⟩)] w fun e w'=>e= .returned (.tuple #[])/\w.setCell ⟨b,0,none⟩ (.int .u32 (U32 (Lv r c)))=w':=by
 have h0:=As c;have h1:=xj c;go_enter func162,ntmps162;go_wp2_with fail;go_loopw [7] (fun i wr=>∃k:Nat,k<=8/\i= .int .i64 k/\w.setCell ⟨b,0,none⟩ (.int .u32 (U32 (Hm k (r^^^c.toBitVec.setWidth 32))))=wr) (fun i _=>8-(intOf i).toNat)
 case atStart=>exact ⟨0,oA,rfl,rfl⟩
 case round=>
  obtain ⟨k,hk,rfl,rfl⟩:=hrel;by_cases hlt:k<8
  .go_wp2_with (go_at_call 163;refine (DS _ _).mono ?_;rintro e w' ⟨rfl,rfl⟩);go_roundw
   case rel=>exact ⟨k+1,oA,gnA,(su _ _ _ _).symm⟩
   case measure=>simp [intOf];omega
  .go_wp2;go_end0;obtain rfl:k=8:=oA;exact ⟨rfl,rfl⟩
theorem vg (l:List UInt8) (k:Nat) (h:k<l.length) (r:BitVec 32):Lv (nZ r (l.take k)) l[k]=nZ r (l.take (k+1)):=(zX r l k h).symm
theorem sS (s:BitVec 32) (a:Option Addr) (len cap:Nat) (l:List UInt8) (w:World) (hl:ah w a l) (hlen:l.length=len) (hm:len<=maxLen):
  Calls prog 135 #[.int .u32 (U32 s),.slice a len cap] w fun e w'=>e= .returned (.int .u32 (U32 (more s l)))/\Below w.heap.size w w':=by
 subst hlen;unfold maxLen at hm;have hmf:∀(fn:Fn) (first cap:Array Value) (w:World),(Instr.makeFunc fn first cap).run prog w= .ok (.func fn first cap) w:=fun _ _ _ _=>rfl;go_enter func135,ntmps135;go_wp2_with fail;go_loopw [14,8] (fun i _ wr=>∃k:Nat,k<=l.length/\i= .int .i64 k/\w.alloc (.cells #[.int .u32 (U32 (nZ (~~~s) (l.take k)))] 196)=wr) (fun i _ _=>l.length-(intOf i).toNat)
 case atStart=>exact ⟨0,oA,rfl,rfl⟩
 case round=>
  obtain ⟨k,hk,rfl,rfl⟩:=hrel;by_cases hlt:k<l.length
  .obtain ⟨b,o,rfl,hc⟩:=hl.at oA;have hb:b<w.heap.size:=VV w _ (hc k hlt);have hck:∀v,(w.alloc (.cells #[v] 196)).cell? ⟨b,o+k,none⟩=some (.int .u8 (U8 l[k])):=fun v=>by
    rw [World.cell?_alloc_past _ _ _ (by simpa using hb)];exact hc k hlt
   have hr:∀v,(w.alloc (.cells #[v] 196)).cell? ⟨w.heap.size,0,none⟩=some v:=fun v=>by
    rw [World.cell?_alloc_at _ _ _ _ rfl];rfl
   have hf:∀v,(w.alloc (.cells #[v] 196)).frozen? ⟨w.heap.size,0,none⟩=false:=fun v=>World.frozen?_alloc_at _ _ _ _ rfl;clear hc;have hfd:=vg l k hlt (~~~s);have HF:=Hd hfd;clear hfd;go_wp2_with (go_at_call 162;refine (Fj _ _ _ _ (hr _) (hf _)).mono ?_;rintro e w' ⟨rfl,rfl⟩);go_roundw
   case rel=>exact ⟨k+1,oA,gnA,by rw [<-HF.out]⟩
   case measure=>simp [intOf];omega
  .have hr:∀v,(w.alloc (.cells #[v] 196)).cell? ⟨w.heap.size,0,none⟩=some v:=fun v=>by
    rw [World.cell?_alloc_at _ _ _ _ rfl];rfl
   go_wp2;go_ret;obtain rfl:k=l.length:=oA;exact ⟨by simp [more],(AT _ _).alloc (Lt _) _⟩
theorem BT (a:Option Addr) (len cap:Nat) (l:List UInt8) (w:World) (hl:ah w a l) (hlen:l.length=len) (hm:len<=maxLen):
  Calls prog 135 #[.int .u32 0,.slice a len cap] w fun e w'=>e= .returned (.int .u32 (U32 (more 0#32 l)))/\Below w.heap.size w w':=
 sS 0#32 a len cap l w hl hlen hm
theorem Bc (a:Option Addr) (len cap:Nat) (l:List UInt8) (w:World) (hl:ah w a l) (hlen:l.length=len) (hm:len<=maxLen):
  Calls prog 136 #[.slice a len cap] w fun e w'=>e= .returned (.int .u32 (U32 (more 0#32 l)))/\Below w.heap.size w w':=by
 have HL:=Hd hlen;clear hlen;go_enter func136,ntmps136;go_wp2_with fail;refine (BT _ _ _ _ _ hl HL.out hm).mono ?_;rintro e w1 ⟨rfl,hb⟩;go_wp2_with fail;go_ret;exact ⟨rfl,hb⟩
theorem nP:bu prog 22 5 1 1:=bu.mk (z:= .int .u8 0) underlying22 krA rfl oA
theorem Da (s:BitVec 32):U32 s%256=U8 ⟨s.setWidth 8⟩:=mH s
theorem GC (s:BitVec 32):U32 s/(256:Int)%(256:Int)=U8 ⟨(s>>>8).setWidth 8⟩:=by
 have h:U32 s/(256:Int)=U32 (s>>>8):=nx s 8;rw [h];exact mH _
theorem Dc (s:BitVec 32):U32 s/(65536:Int)%(256:Int)=U8 ⟨(s>>>16).setWidth 8⟩:=by
 have h:U32 s/(65536:Int)=U32 (s>>>16):=nx s 16;rw [h];exact mH _
theorem Db (s:BitVec 32):U32 s/(16777216:Int)%(256:Int)=U8 ⟨(s>>>24).setWidth 8⟩:=by
 have h:U32 s/(16777216:Int)=U32 (s>>>24):=nx s 24;rw [h];exact mH _
theorem BK {w:World} {B:Nat} (s:BitVec 32) (hb:B<=w.heap.size):
  Own (w.alloc (.cells #[.int .u8 (U32 s%256),.int .u8 (U32 s/256%256),.int .u8 (U32 s/65536%256),.int .u8 (U32 s/16777216%256)] 5)) B 5 1 (some ⟨w.heap.size,0,none⟩) 4 4 ((le4 s).map bv):=
 Own.lit _ _ _ (by rw [Da,GC,Dc,Db];rfl) rfl hb mxA
end
section
open Go.RowKit
attribute [local go_sem] gX gY iK gh gJ shr1 KZ pN
theorem Hn (r:BitVec 32) (h:r&&&1#32=1#32):stp r=(r>>>1)^^^0xedb88320#32:=by
 rw [stp,h];rfl
theorem DR (r:BitVec 32) (h:¬r&&&1#32=1#32):stp r=r>>>1:=by
 have h0:r&&&1#32=0#32:=by
  have h1:(r&&&1#32).toNat≠1:=fun e=>h (Wd (by rw [e];rfl));have h2:(r&&&1#32).toNat=r.toNat%2:=by
   rw [BitVec.toNat_and];exact Nat.and_two_pow_sub_one_eq_mod _ 1
  apply Wd;simp only [We];omega
 rw [stp,h0];simp
theorem IB {r:BitVec 32} (h:r&&&1#32=1#32):(U32 (r&&&1#32)==1)=true:=by rw [h];rfl
theorem Ld {r:BitVec 32} (h:¬r&&&1#32=1#32):(U32 (r&&&1#32)==1)=false:=by
 have e:(1:Int)=U32 1#32:=rfl;rw [e,JK];simp [h]
theorem nF (s:BitVec 32) (a:Option Addr) (len cap:Nat) (l:List UInt8) (w:World) (hl:ah w a l) (hlen:l.length=len) (hm:len<=maxLen):
  Calls prog 160 #[.int .u32 (U32 s),.slice a len cap] w fun e w'=>e= .returned (.int .u32 (U32 (more s l)))/\w=w':=by
 subst hlen;unfold maxLen at hm;go_enter func160,ntmps160;go_wp2_with fail;go_loop [6,5] (fun i r=>∃k:Nat,k<=l.length/\i= .int .i64 k/\r= .int .u32 (U32 (nZ (~~~s) (l.take k)))) (fun i _=>l.length-(intOf i).toNat)
 case atStart=>exact ⟨0,oA,rfl,rfl⟩
 case round=>
  obtain ⟨k,hk,rfl,rfl⟩:=hrel;by_cases hlt:k<l.length
  .obtain ⟨b,o,rfl,hc⟩:=hl.at oA;have hck:=hc k hlt;clear hc;have HF:=Hd (vg l k hlt (~~~s));have h0:=As l[k];have h1:=xj l[k];go_wp2_with fail;go_loop [7,5] (fun i r=>∃j:Nat,j<=8/\i= .int .i64 j/\r= .int .u32 (U32 (Hm j (nZ (~~~s) (l.take k)^^^l[k].toBitVec.setWidth 32)))) (fun i _=>8-(intOf i).toNat)
   case atStart=>exact ⟨0,oA,rfl,rfl⟩
   case round=>
    obtain ⟨j,hj,rfl,rfl⟩:=hrel;by_cases hlt2:j<8
    .generalize hq:Hm j (nZ (~~~s) (l.take k)^^^l[k].toBitVec.setWidth 32)=q at*;have HQ:=Hd hq;clear hq;by_cases hodd:q&&&1#32=1#32
     .have ht:=IB hodd;have HS:=Hd (Hn q hodd);clear hodd;go_wp2_with fail;go_round
      case rel=>exact ⟨j+1,oA,gnA,by rw [Hm,HQ.out,HS.out]⟩
      case measure=>simp [intOf];omega
     .have ht:=Ld hodd;have HS:=Hd (DR q hodd);clear hodd;go_wp2_with fail;go_round
      case rel=>exact ⟨j+1,oA,gnA,by rw [Hm,HQ.out,HS.out,Lp]⟩
      case measure=>simp [intOf];omega
    .rw [show j=8 by omega];go_wp2_with fail;go_round
     case rel=>exact ⟨k+1,oA,gnA,by rw [<-HF.out];rfl⟩
     case measure=>simp [intOf];omega
  .go_wp2_with fail;go_ret;obtain rfl:k=l.length:=oA;exact ⟨by simp [more],rfl⟩
theorem sC (a:Option Addr) (len cap:Nat) (l:List UInt8) (w:World) (hl:ah w a l) (hlen:l.length=len) (hm:len<=maxLen):
  Calls prog 160 #[.int .u32 0,.slice a len cap] w fun e w'=>e= .returned (.int .u32 (U32 (more 0#32 l)))/\w=w':=
 nF 0#32 a len cap l w hl hlen hm
theorem vV (a:Option Addr) (len cap:Nat) (l:List UInt8) (w:World) (hl:ah w a l) (hlen:l.length=len) (hm:len<=maxLen):
  Calls prog 161 #[.slice a len cap] w fun e w'=>e= .returned (.int .u32 (U32 (more 0#32 l)))/\Below w.heap.size w w':=by
 have HL:=Hd hlen;clear hlen;go_enter func161,ntmps161;go_wp2_with fail;refine (sC _ _ _ _ _ hl HL.out hm).mono ?_;rintro e w1 ⟨rfl,rfl⟩;go_wp2_with fail;go_ret;exact ⟨rfl,AT _ _⟩
end
section
def be4 (n:Nat):List UInt8:=[UInt8.ofNat (n/16777216),UInt8.ofNat (n/65536),UInt8.ofNat (n/256),UInt8.ofNat n]
def sF (c0 c1 c2 c3:UInt8):Nat:=c0.toNat*16777216+c1.toNat*65536+c2.toNat*256+c3.toNat
def jN (l:List UInt8):BitVec 32:=more (more 0#32 (be4 l.length)) l
def wM (l:List UInt8):List UInt8:=be4 l.length++le4 (jN l)
def bj (l:List UInt8):List UInt8:=wM l++l
theorem rP (n:Nat):(be4 n).length=4:=rfl
theorem uS (l:List UInt8):(wM l).length=8:=rfl
theorem bM (l:List UInt8):(bj l).length=8+l.length:=by simp [bj,uS]
theorem sE (c0 c1 c2 c3:UInt8):be4 (sF c0 c1 c2 c3)=[c0,c1,c2,c3]:=by
 have h0:c0.toNat<256:=c0.toBitVec.isLt;have h1:c1.toNat<256:=c1.toBitVec.isLt;have h2:c2.toNat<256:=c2.toBitVec.isLt;have h3:c3.toNat<256:=c3.toBitVec.isLt;have e:∀(c:UInt8) (n:Nat),n%256=c.toNat->UInt8.ofNat n=c:=by
  intro c n h;apply UInt8.toNat.inj;rw [UInt8.toNat_ofNat'];simpa using h
 unfold be4 sF;rw [e c0 _ oA,e c1 _ oA,e c2 _ oA,e c3 _ oA]
theorem Hy (c0 c1 c2 c3:UInt8):sF c0 c1 c2 c3<4294967296:=by
 have h0:c0.toNat<256:=c0.toBitVec.isLt;have h1:c1.toNat<256:=c1.toBitVec.isLt;have h2:c2.toNat<256:=c2.toBitVec.isLt;have h3:c3.toNat<256:=c3.toBitVec.isLt;unfold sF;omega
theorem JB {n m:Nat} (h1:n<4294967296) (h2:m<4294967296) (h:be4 n=be4 m):n=m:=by
 unfold be4 at h;simp only [XG,and_true] at h;obtain ⟨a,b,c,d⟩:=h;have f:∀x y,UInt8.ofNat x=UInt8.ofNat y->x%256=y%256:=by
  intro x y e;have:=WG UInt8.toNat e;simpa using this
 have a:=f _ _ a;have b:=f _ _ b;have c:=f _ _ c;have d:=f _ _ d;omega
def eZ (b:List UInt8):Nat:=sF (b.getD 0 0) (b.getD 1 0) (b.getD 2 0) (b.getD 3 0)
def fS (b:List UInt8):List UInt8:=(b.drop 8).take (eZ b)
def iz (b:List UInt8):Bool:=decide (8<b.length)&&decide (1<=eZ b)&&decide (eZ b<=65536)&&decide (eZ b<=b.length-8)&&(b.take 8==wM (fS b))
def scan:Nat->List UInt8->List (List UInt8)×List UInt8
 |0,b=>([],b)
 |f+1,b=>if iz b then (fS b::(scan f (b.drop (8+eZ b))).1,(scan f (b.drop (8+eZ b))).2) else ([],b)
theorem jm {f:Nat} {b:List UInt8} (h:iz b=true):scan (f+1) b=(fS b::(scan f (b.drop (8+eZ b))).1,(scan f (b.drop (8+eZ b))).2):=by simp [scan,h]
theorem gO {f:Nat} {b:List UInt8} (h:iz b=false):scan f b=([],b):=by cases f<;>simp [scan,h]
theorem iy {b:List UInt8} (h:b.length<=8):iz b=false:=by
 unfold iz;rw [Vd oA];rfl
theorem sW {b:List UInt8} (h:eZ b<=b.length-8):(fS b).length=eZ b:=by
 unfold fS;rw [ltA,ldA];omega
theorem sv {b:List UInt8} (h1:8<b.length) (h2:1<=eZ b) (h3:eZ b<=65536) (h4:eZ b<=b.length-8):iz b=(b.take 8==wM (fS b)):=by
 unfold iz;rw [VO h1,VO h2,VO h3,VO h4];rfl
theorem xJ {b:List UInt8} (h:¬(1<=eZ b/\eZ b<=65536/\eZ b<=b.length-8)):iz b=false:=by
 unfold iz;rw [<-Bool.not_eq_true];simp only [VN,Xq];omega
theorem pA (f:Nat) (b:List UInt8):(scan f b).2.length<=b.length:=by
 induction f generalizing b with
 |zero=>simp [scan]
 |succ f ih=>
  by_cases h:iz b=true
  .rw [jm h];have:=ih (b.drop (8+eZ b));rw [ldA] at this;show (scan f (b.drop (8+eZ b))).2.length<=_;omega
  .rw [gO (by simpa using h)];exact Lt _
theorem mY (f:Nat) (b:List UInt8):(scan f b).1.length<=f:=by
 induction f generalizing b with
 |zero=>simp [scan]
 |succ f ih=>
  by_cases h:iz b=true
  .rw [jm h];have:=ih (b.drop (8+eZ b));simp only [VT];omega
  .rw [gO (by simpa using h)];simp
theorem vM (c0 c1 c2 c3 d0 d1 d2 d3:UInt8) (m:List UInt8) (hm:m≠ []) (h1:1<=sF c0 c1 c2 c3) (h2:sF c0 c1 c2 c3<=65536) (h3:sF c0 c1 c2 c3<=m.length):
  iz (c0::c1::c2::c3::d0::d1::d2::d3::m)=([d0,d1,d2,d3]==le4 (jN (m.take (sF c0 c1 c2 c3)))):=by
 have hl:(m.take (sF c0 c1 c2 c3)).length=sF c0 c1 c2 c3:=(by rw [ltA];omega);have hp:0<m.length:=List.length_pos_iff.2 hm;have e:eZ (c0::c1::c2::c3::d0::d1::d2::d3::m)=sF c0 c1 c2 c3:=rfl;rw [sv (by simp only [VT];omega) (by rw [e];exact h1) (by rw [e];exact h2) (by rw [e];simp only [VT];omega)];show ([c0,c1,c2,c3,d0,d1,d2,d3]==be4 (m.take (sF c0 c1 c2 c3)).length++le4 (jN (m.take (sF c0 c1 c2 c3))))=_;rw [hl,sE];simp
theorem Bv (c0 c1 c2 c3:UInt8) (l:List UInt8) (h:l.length=sF c0 c1 c2 c3):more (more 0#32 [c0,c1,c2,c3]) l=jN l:=by
 unfold jN;rw [h,sE]
theorem gP {iU f:Nat} {b r:List UInt8} {done:List (List UInt8)} (h:scan iU b=(done++(scan f r).1,(scan f r).2)) (hf:f=0\/iz r=false):scan iU b=(done,r):=by
 have:scan f r=([],r):=by
  rcases hf with rfl|hf
  .rfl
  .exact gO hf
 rw [h,this];simp
theorem uc {iU f:Nat} {b r:List UInt8} {done:List (List UInt8)} (h:scan iU b=(done++(scan (f+1) r).1,(scan (f+1) r).2)) (hf:iz r=true):
  scan iU b=((done++ [fS r])++(scan f (r.drop (8+eZ r))).1,(scan f (r.drop (8+eZ r))).2):=by
 rw [h,jm hf];simp
theorem Ly {r:List UInt8} (h:8<r.length):∃c0 c1 c2 c3 d0 d1 d2 d3 m,r=c0::c1::c2::c3::d0::d1::d2::d3::m/\m≠ []:=by
 match r,h with
 |c0::c1::c2::c3::d0::d1::d2::d3::x::m,_=>exact ⟨c0,c1,c2,c3,d0,d1,d2,d3,x::m,rfl,skA⟩
theorem gQ (l m:List UInt8) (h:l.length<4294967296):eZ (bj l++m)=l.length:=by
 have e:be4 (eZ (bj l++m))=be4 l.length:=by
  unfold eZ;rw [sE];rfl
 exact JB (Hy _ _ _ _) h e
theorem wS (l m:List UInt8):(bj l++m).drop 8=l++m:=rfl
theorem vJ (l m:List UInt8):(bj l++m).take 8=wM l:=rfl
theorem mv (l m:List UInt8) (h:l.length<4294967296):fS (bj l++m)=l:=by
 unfold fS;rw [gQ l m h,wS,List.take_left]
theorem ub (l m:List UInt8) (h1:1<=l.length) (h2:l.length<=65536):iz (bj l++m)=true:=by
 rw [sv,mv l m oA,vJ,BEq.rfl]
 .rw [laA,bM];omega
 .rw [gQ l m oA];exact h1
 .rw [gQ l m oA];exact h2
 .rw [gQ l m oA,laA,bM];omega
theorem vO (f:Nat) (l m:List UInt8) (h1:1<=l.length) (h2:l.length<=65536):scan (f+1) (bj l++m)=(l::(scan f m).1,(scan f m).2):=by
 rw [jm (ub l m h1 h2),mv l m oA,gQ l m oA];have e:(bj l++m).drop (8+l.length)=m:=(by rw [<-bM,List.drop_left]);rw [e]
def asQ (ls:List (List UInt8)):List UInt8:=(ls.map bj).flatten
theorem up (l:List UInt8) (ls:List (List UInt8)):asQ (l::ls)=bj l++asQ ls:=by simp [asQ]
theorem nG (l:List UInt8) (ls:List (List UInt8)):asQ (ls++ [l])=asQ ls++bj l:=by simp [asQ]
def Kc (ls:List (List UInt8)):Prop:=∀l∈ls,1<=l.length/\l.length<=65536
theorem nC (f:Nat) (ls:List (List UInt8)) (m:List UInt8) (h:Kc ls) (hf:ls.length<=f):scan f (asQ ls++m)=(ls++(scan (f-ls.length) m).1,(scan (f-ls.length) m).2):=by
 induction ls generalizing f with
 |nil=>simp [asQ]
 |cons l ls ih=>
  obtain ⟨h1,h2⟩:=h l List.mem_cons_self;cases f with
  |zero=>simp at hf
  |succ f=>
   rw [up,VM,vO f l _ h1 h2,ih f (fun x hx=>h x (List.mem_cons_of_mem _ hx)) (by simpa using hf)];simp only [VT,Nat.add_sub_add_right,XN]
end
section
open Go.RowKit
theorem js (a:Option Addr) (len cap:Nat) (l:List UInt8) (w:World) (hl:ah w a l) (hlen:l.length=len) (hm:len<=140737488351232):
  Calls prog 48 #[.slice a len cap] w fun e w'=>∃a' c',e= .returned (.slice a' len c')/\Own w' w.heap.size 5 1 a' len c' (l.map bv)/\Below w.heap.size w w':=by
 have HL:=Hd hlen;clear hlen;have q:∀(w:World) (a:Option Addr) (n c n' c':Nat),(binOp .eql 22 (.slice a n c) (.slice none n' c')).run prog w= .ok (.bool a.isNone) w:=fun w a n c n' c'=>Lib.run_eql_slice_nil w _ _ a n c n' c' underlying22;cases a with
 |none=>
  have hl0:l=[]:=by
   refine Vz (Nat.eq_zero_of_not_pos fun h=> ?_);obtain ⟨_,_,e,_⟩:=hl 0 (by simpa using h);cases e
  subst hl0;have h0:len=0:=HL.out.symm;go_enter func48,ntmps48;go_wp2_with fail;go_ret;exact ⟨none,0,by rw [h0];rfl,by rw [h0];exact Own.nil _ _ _ _,AT _ _⟩
 |some x=>
  go_enter func48,ntmps48;have hown:Own (w.alloc (.cells #[] 5)) w.heap.size 5 1 (some ⟨w.heap.size,0,none⟩) 0 0 []:=Own.lit _ _ _ rfl rfl (Lt _) mxA;go_wp2_with (at_builtin;refine al rfl _ _ 22 rfl nP rfl hown rfl (hl.alloc _) (by rw [lmA,HL.out,Vk]) (cO _) mxA oA skA ?_);intro a1 c1 w1 hown1 hg1;go_wp2_with fail;go_ret;refine ⟨a1,c1,?_,?_,hown.grown ((AT _ _).alloc (Lt _) _) (Lt _) hg1 skA⟩
  .first|rfl|simp
  .simpa using hown1
theorem FC (n k:Nat):((n:Int)/(k:Int))%256=U8 (UInt8.ofNat (n/k)):=by
 simp [U8]
theorem Ij {w:World} {B:Nat} (n:Nat) (hb:B<=w.heap.size):
  Own (w.alloc (.cells #[.int .u8 ((n:Int)/16777216%256),.int .u8 ((n:Int)/65536%256),.int .u8 ((n:Int)/256%256),.int .u8 ((n:Int)%256)] 5)) B 5 1 (some ⟨w.heap.size,0,none⟩) 4 4 ((be4 n).map bv):=by
 refine Own.lit _ _ _ ?_ rfl hb mxA;have h:=FC n;have h3:(n:Int)%256=U8 (UInt8.ofNat n):=(by simp [U8]);have a:=h 16777216;have b:=h 65536;have c:=h 256;simp only [be4,WY,XF,bv];rw [<-a,<-b,<-c,<-h3];rfl
theorem xY {w:World} {B:Nat} (n:Nat) (h:n<=65536) (hb:B<=w.heap.size):
  Own (w.alloc (.cells #[.int .u8 ((n:Int)/16777216),.int .u8 ((n:Int)/65536),.int .u8 ((n:Int)/256%256),.int .u8 ((n:Int)%256)] 5)) B 5 1 (some ⟨w.heap.size,0,none⟩) 4 4 ((be4 n).map bv):=by
 have a:(n:Int)/16777216=(n:Int)/16777216%256:=oA;have b:(n:Int)/65536=(n:Int)/65536%256:=oA;rw [a,b];exact Ij n hb
theorem zt (a:Option Addr) (len cap:Nat) (l:List UInt8) (w:World) (hl:ah w a l) (hlen:l.length=len) (h1:1<=len) (h2:len<=65536):
  Calls prog 115 #[.slice a len cap] w fun e w'=>∃a' c',e= .returned (.tuple #[.slice a' (8+len) c',.int .i64 0])/\Own w' w.heap.size 5 1 a' (8+len) c' ((bj l).map bv)/\Below w.heap.size w w':=by
 have HL:=Hd hlen;clear hlen;have t1:decide ((len:Int)=0)=false:=soA;have t1':((len:Int)==0)=false:=soA;have t2:decide ((65536:Int)<(len:Int))=false:=soA;go_enter func115,ntmps115;go_wp2_with fail;have hown:=xY (w:=w) (B:=w.heap.size) len h2 (Lt _);refine (Bc _ _ _ _ _ hown.row (rP _) mxA).mono ?_;rintro e w1 ⟨rfl,hb⟩;have hb01:Below w.heap.size w w1:=ae ((AT _ w).alloc (Lt _) _) hb;go_wp2_with fail;refine (sS _ _ _ _ l _ (hl.below hb01) HL.out mxA).mono ?_;rintro e w2 ⟨rfl,hb2⟩;have hb02:=ae hb01 hb2;have HS:=Hd (show more (more 0#32 (be4 len)) l=jN l by unfold jN;rw [HL.out]);rw [HS.out];have hown2:=(hown.old hb).old hb2;have hown3:=BK (w:=w2) (B:=w2.heap.size) (jN l) (Lt _);go_wp2_with (at_builtin;refine al rfl _ _ 22 rfl nP rfl (hown2.alloc _) rfl hown3.row rfA (cO _) mxA oA (by simp;exact Nat.le_succ_of_le hb02.size) ?_);intro a4 c4 w4 hown4 hg4;have hb4:=(hown2.alloc _).grown (ae hb02 ((AT _ w2).alloc (Lt _) _)) (Lt _) hg4 (by simp;exact Nat.le_succ_of_le hb02.size);go_wp2_with (at_builtin;refine al rfl _ _ 22 rfl nP rfl hown4 rfl (hl.below hb4) (by rw [lmA,HL.out,Vk]) (cO _) mxA oA hb4.size ?_);intro a5 c5 w5 hown5 hg5;go_wp2_with fail;go_ret2;refine ⟨a5,c5,rfl,?_,hown4.grown hb4 (Lt _) hg5 hb4.size⟩;simpa [bj,wM,HL.out] using hown5
theorem vW (a:Option Addr) (cap:Nat) (w:World):
  Calls prog 115 #[.slice a 0 cap] w fun e w'=>e= .returned (.tuple #[.slice none 0 0,.int .i64 2])/\w'=w:=by
 go_enter func115,ntmps115;go_wp2_with fail;go_ret2;exact ⟨rfl,rfl⟩
theorem vX (a:Option Addr) (len cap:Nat) (w:World) (h:65536<len):
  Calls prog 115 #[.slice a len cap] w fun e w'=>e= .returned (.tuple #[.slice none 0 0,.int .i64 3])/\w'=w:=by
 have t1:((len:Int)==0)=false:=soA;have t2:decide ((65536:Int)<(len:Int))=true:=soA;go_enter func115,ntmps115;go_wp2_with fail;go_ret2;exact ⟨rfl,rfl⟩
theorem BL (x y k:Nat) (hy:y<2^k) (h:x*2^k+y<9223372036854775808):bits .or .i64 ((x*2^k:Nat):Int) ((y:Nat):Int)=((x*2^k+y:Nat):Int):=by
 have hx:x*2^k<9223372036854775808:=oA;have hy':y<9223372036854775808:=oA;have e:(BitVec.ofInt 64 ((x*2^k:Nat):Int)|||BitVec.ofInt 64 ((y:Nat):Int)).toNat=x*2^k+y:=by
  rw [BitVec.toNat_or,Wp,Wp];rw [show (((x*2^k:Nat):Int)%((2^64:Nat):Int)).toNat=x*2^k by omega,show (((y:Nat):Int)%((2^64:Nat):Int)).toNat=y by omega];rw [Wi x,<-Nat.two_pow_add_eq_or_of_lt hy]
 show IntKind.i64.wrap (((BitVec.ofInt 64 ((x*2^k:Nat):Int)|||BitVec.ofInt 64 ((y:Nat):Int)).toNat:Nat):Int)=_;rw [e,VD _ oA]
theorem orBE (c0 c1 c2 c3:UInt8):bits .or .i64 (bits .or .i64 (bits .or .i64 (wrap64 (wrap64 (U8 c0)*16777216)) (wrap64 (wrap64 (U8 c1)*65536))) (wrap64 (wrap64 (U8 c2)*256))) (wrap64 (U8 c3))=(sF c0 c1 c2 c3:Int):=by
 have h0:c0.toNat<256:=c0.toBitVec.isLt;have h1:c1.toNat<256:=c1.toBitVec.isLt;have h2:c2.toNat<256:=c2.toBitVec.isLt;have h3:c3.toNat<256:=c3.toBitVec.isLt;have w0:∀c:UInt8,wrap64 (U8 c)=U8 c:=fun c=>IntWalk.wrap64_in _ ⟨by have:=As c;omega,by have:=xj c;omega⟩;have w1:∀(c:UInt8) (k:Int),0<=k->k<=16777216->wrap64 (U8 c*k)=U8 c*k:=by
  intro c k hk0 hk1;have a:=As c;have b:=xj c;have e1:0<=U8 c*k:=Int.mul_nonneg a hk0;have e2:U8 c*k<=256*16777216:=Int.mul_le_mul oA hk1 hk0 oA;exact IntWalk.wrap64_in _ ⟨oA,oA⟩
 rw [w0,w0,w0,w0,w1 _ _ oA oA,w1 _ _ oA oA,w1 _ _ oA oA];have a:U8 c0*16777216=((c0.toNat*2^24:Nat):Int):=(by simp [U8]);have b:U8 c1*65536=((c1.toNat*2^16:Nat):Int):=(by simp [U8]);have c:U8 c2*256=((c2.toNat*2^8:Nat):Int):=(by simp [U8]);have d:U8 c3=((c3.toNat:Nat):Int):=rfl;rw [a,b,c,d,BL _ _ 24 oA oA,show c0.toNat*2^24+c1.toNat*2^16=(c0.toNat*256+c1.toNat)*2^16 by omega,BL _ _ 16 oA oA,
  show (c0.toNat*256+c1.toNat)*2^16+c2.toNat*2^8=((c0.toNat*256+c1.toNat)*256+c2.toNat)*2^8 by omega,BL _ _ 8 oA oA]
 unfold sF;omega
theorem Fe (n:Nat) (w:World) (h:n<=65536):
  Calls prog 159 #[.int .i64 (n:Int)] w fun e w'=>∃a',e= .returned (.slice a' 4 4)/\Own w' w.heap.size 5 1 a' 4 4 ((be4 n).map bv)/\Below w.heap.size w w':=by
 go_enter func159,ntmps159;go_wp2_with fail;go_ret;exact ⟨_,rfl,xY n h (Lt _),(AT _ _).alloc (Lt _) _⟩
theorem qL (a:Option Addr) (len cap:Nat) (l:List UInt8) (w:World) (hl:ah w a l) (hlen:l.length=len) (h1:1<=len) (h2:len<=65536):
  Calls prog 134 #[.slice a len cap] w fun e w'=>∃a' c',e= .returned (.tuple #[.slice a' (8+len) c',.int .i64 0])/\Own w' w.heap.size 5 1 a' (8+len) c' ((bj l).map bv)/\Below w.heap.size w w':=by
 have HL:=Hd hlen;clear hlen;have t1:((len:Int)==0)=false:=soA;have t2:decide ((65536:Int)<(len:Int))=false:=soA;go_enter func134,ntmps134;go_wp2_with fail;refine (Fe len _ h2).mono ?_;rintro e w0 ⟨a0,rfl,hown,hb0⟩;go_wp2_with fail;refine (vV _ _ _ _ _ hown.row (rP _) mxA).mono ?_;rintro e w1 ⟨rfl,hb⟩;have hb01:Below w.heap.size w w1:=ae hb0 hb;go_wp2_with fail;refine (nF _ _ _ _ l _ (hl.below hb01) HL.out mxA).mono ?_;rintro e w2 ⟨rfl,hb2⟩;have hb2:Below w1.heap.size w1 w2:=hb2▸AT _ _;have hb02:=ae hb01 hb2;have HS:=Hd (show more (more 0#32 (be4 len)) l=jN l by unfold jN;rw [HL.out]);rw [HS.out];have hown2:=(hown.old hb).old hb2;have hown3:=BK (w:=w2) (B:=w2.heap.size) (jN l) (Lt _);go_wp2_with (at_builtin;refine al rfl _ _ 22 rfl nP rfl (hown2.alloc _) rfl hown3.row rfA (cO _) mxA oA (by simp;exact Nat.le_succ_of_le hb02.size) ?_);intro a4 c4 w4 hown4 hg4;have hb4:=(hown2.alloc _).grown (ae hb02 ((AT _ w2).alloc (Lt _) _)) (Lt _) hg4 (by simp;exact Nat.le_succ_of_le hb02.size);go_wp2_with (at_builtin;refine al rfl _ _ 22 rfl nP rfl hown4 rfl (hl.below hb4) (by rw [lmA,HL.out,Vk]) (cO _) mxA oA hb4.size ?_);intro a5 c5 w5 hown5 hg5;go_wp2_with fail;go_ret2;refine ⟨a5,c5,rfl,?_,hown4.grown hb4 (Lt _) hg5 hb4.size⟩;simpa [bj,wM,HL.out] using hown5
end
end Go.Proofs.YtioigihakjlopaaGreat
