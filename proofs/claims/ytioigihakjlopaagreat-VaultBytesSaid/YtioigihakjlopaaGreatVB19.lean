/- Texts put together and cut to what is used: ShaSum, ShaLaws, MacEq, Mac. -/
import Derived.Test.YtioigihakjlopaaGreatVB18
import Derived.Laws.StructEq
namespace Go.Proofs.YtioigihakjlopaaGreat
set_option linter.unusedVariables false
set_option linter.unusedSimpArgs false
section
open Go.RowKit
def pdl (l:List UInt8) (z:Nat):List UInt8:=l++ [128]++List.replicate z 0
def zN (n:Nat):Nat:=(119-n%64)%64
def be64b (n i:Nat):UInt8:=⟨BitVec.ofNat 8 (n/2^(56-8*i))⟩
def be64 (n:Nat):List UInt8:=(List.range 8).map (be64b n)
def full (l:List UInt8):List UInt8:=pdl l (zN l.length)++be64 (l.length*8)
def endw (l:List UInt8):Nat→BitVec 32:=stt (full l) ((full l).length/64)
def dgb (l:List UInt8) (i:Nat):UInt8:=⟨(endw l (i/4)>>>(24-8*(i%4))).setWidth 8⟩
def dgA (l:List UInt8):Array Value:=vA 32 fun i=>bv (dgb l i)
theorem pdl_length (l:List UInt8) (z:Nat):(pdl l z).length=l.length+1+z:=by simp [pdl];omega
theorem pdl_succ (l:List UInt8) (z:Nat):pdl l (z+1)=pdl l z++ [0]:=by simp [pdl,List.replicate_succ']
theorem be64_length (n:Nat):(be64 n).length=8:=by rw [be64,List.length_map,List.length_range]
theorem len8b:Tryz.prog.arrayLen 260=8:=by kernel_rfl
theorem elem8b:Tryz.prog.elem 260=5:=by kernel_rfl
theorem arr8b:Tryz.prog.underlying 260=some (.array (Tryz.prog.arrayLen 260) (Tryz.prog.elem 260)):=by rw [len8b,elem8b];exact Tryz.underlying260
theorem all8b (b:Nat) (W:World):(Instr.sliceAt 260 (.pointer (some ⟨b,0,none⟩)) none none none).run Tryz.prog W= .ok (.slice (some ⟨b,0,none⟩) 8 8) W:=by
 rw [run_sliceAt_array_all W _ _ arr8b,elem8b,sized_run u8Info,len8b]
 simp [slicedAt];rfl
theorem be64_at (n:Nat) (L:Nat) (i:Nat) (p:Int) (hn:n=L*8) (hp:p=((2^(56-8*i):Nat):Int)):(L:Int)*8/p%256=U8 (be64b n i):=by
 subst hn
 have e:U8 (be64b (L*8) i)=(((L*8/2^(56-8*i))%2^8:Nat):Int):=by
  show (((BitVec.ofNat 8 (L*8/2^(56-8*i))).toNat:Nat):Int)=_
  rw [BitVec.toNat_ofNat]
 rw [e,hp]
 generalize 2^(56-8*i)=P
 rw [Int.natCast_emod,Int.natCast_ediv,Int.natCast_mul]
 rfl
theorem HashAt.alloc {w:World} {B g:Nat} {l:List UInt8} {a:Option Addr} {n c:Nat} (h:HashAt w B g l a n c) (o:Obj):HashAt (w.alloc o) B g l a n c:=⟨h.hash.alloc _,h.row.alloc _,h.lt⟩
theorem HashAt.left {w:World} {B g:Nat} {l:List UInt8} {a:Option Addr} {n c:Nat} (h:HashAt w B g l a n c):n=l.length%64:=by
 have:=h.row.len
 rw [←this];simp;omega
theorem HashAt.cell {w:World} {B g:Nat} {l:List UInt8} {a:Option Addr} {n c:Nat} (h:HashAt w B g l a n c):w.cell? ⟨g,8,none⟩=some (.slice a n c):=h.hash.atV (by omega) (hcs_8 _ _ _)
theorem HashAt.setCell {w:World} {B g:Nat} {l:List UInt8} {a:Option Addr} {n c:Nat} (h:HashAt w B g l a n c) {T:Nat} {cs:Array Value} {t:TypeId} (hT:Blk w T cs t) (h1:t≠270) (h2:t≠5) (i:Nat) (v:Value):HashAt (w.setCell ⟨T,i,none⟩ v) B g l a n c:=
 ⟨h.hash.other _ _ (Blk.ne h.hash hT (Ne.symm h1)),h.row.setCell hT h2 _ _,h.lt⟩
theorem HashAt.setRow {w:World} {B g:Nat} {l:List UInt8} {a:Option Addr} {n c:Nat} (h:HashAt w B g l a n c) {T:Nat} {cs:Array Value} {t:TypeId} (hT:Blk w T cs t) (h1:t≠270) (h2:t≠5) (cs':Array Value):HashAt (w.setRow T cs') B g l a n c:=
 ⟨h.hash.setRow_other _ _ (Blk.ne h.hash hT (Ne.symm h1)),h.row.setRow hT h2 _,h.lt⟩
theorem HashAt.old {w w':World} {B g:Nat} {l:List UInt8} {a:Option Addr} {n c:Nat} (h:HashAt w B g l a n c) (hb:Below w.heap.size w w'):HashAt w' B g l a n c:=⟨h.hash.old hb,h.row.old hb,h.lt⟩
structure SmIn (w:World) (H g:Nat) (l:List UInt8) (a:Option Addr) (n c:Nat) (wr:World):Prop where
 hash:HashAt wr H g l a n c
 res:∃z:Array Value,z.size=32∧Blk wr H z 170
 out:Blk wr (H+1) (vA 32 fun _=> .int .u8 0) 170
 below:Below H w wr
section
variable {w:World} {H g:Nat} {l:List UInt8} {a:Option Addr} {n c:Nat} {wr wq:World}
theorem SmIn.alloc (h:SmIn w H g l a n c wr) (o:Obj):SmIn w H g l a n c (wr.alloc o):=
 ⟨h.hash.alloc o,by obtain ⟨z,hz,hZ⟩:=h.res;exact ⟨z,hz,hZ.alloc o⟩,h.out.alloc o,h.below.alloc (by have:=h.out.lt;omega) o⟩
theorem SmIn.rowNe (h:SmIn w H g l a n c wr) {b:Nat} {cs:Array Value} {t:TypeId} (hb:Blk wr b cs t) (ht:t≠5):rowB a c≠some b:=fun e=>by
 obtain ⟨_,_,cur,hcur⟩:=h.hash.row.lt e
 exact Blk.ne hcur hb (Ne.symm ht) rfl
theorem SmIn.write (h:SmIn w H g l a n c wr) (hg:H+1<g) {b:List UInt8} {a':Option Addr} {n' c':Nat} (hp:HashAt wq H g (l++b) a' n' c') (hfr:HsFr wr wq g (rowB a c)):SmIn w H g (l++b) a' n' c' wq:=
 ⟨hp,by obtain ⟨z,hz,hZ⟩:=h.res;exact ⟨z,hz,hfr.blk hZ (by omega) (h.rowNe hZ (by decide))⟩,hfr.blk h.out (by omega) (h.rowNe h.out (by decide)),
  h.below.trans (hfr.below (by omega) (fun b hb=>(h.hash.row.lt hb).1) (by have:=h.out.lt;omega))⟩
end
def Sm1 (w:World) (H g:Nat) (l:List UInt8) (f:Nat) (wr:World):Prop:=
 ∃(z:Nat) (a:Option Addr) (n c:Nat),f+z=zN l.length∧SmIn w H g (pdl l z) a n c wr
def Sm2 (w:World) (H g T:Nat) (l:List UInt8) (a:Option Addr) (n c:Nat) (f:Nat) (i:Value) (wr:World):Prop:=
 ∃k:Nat,f+k=8∧i= .int .i64 (k:Int)∧SmIn w H g (pdl l (zN l.length)) a n c wr∧Blk wr T (vA 8 fun j=>if j<k then bv (be64b (l.length*8) j) else .int .u8 0) 260
def Sm3 (w:World) (H g:Nat) (l:List UInt8) (f:Nat) (i:Value) (wr:World):Prop:=
 ∃k:Nat,f+k=32∧i= .int .i64 (k:Int)∧(∃r n,Blk wr g (vA 74 (hcs (endw l) r n)) 270)∧(∃z:Array Value,z.size=32∧Blk wr H z 170)∧Blk wr (H+1) (vA 32 fun j=>if j<k then bv (dgb l j) else .int .u8 0) 170∧Below H w wr
theorem bytes1 {w:World} (x:UInt8) {v:Value} (hv:v=bv x):BytesAt (w.alloc (.cells #[v] 5)) (some ⟨w.heap.size,0,none⟩) [x]:=by
 subst hv;exact RowAt.new w #[bv x] 5
theorem dg_byte (x:BitVec 32) (s:Nat) (p:Int) (hp:p=(2:Int)^s):U32 x/p%256=U8 ⟨(x>>>s).setWidth 8⟩:=by
 rw [hp,U32_shr_pow];exact U32_byte _
theorem dg_step (l:List UInt8) (j k:Nat) (x:Int) (h:x=U8 (dgb l k)):(if j=k then Value.int .u8 x else if j<k then bv (dgb l j) else .int .u8 0)=if j<k+1 then bv (dgb l j) else .int .u8 0:=by
 subst h
 by_cases e:j=k
 ·subst e;rw [if_pos rfl,if_pos (by omega)];rfl
 ·rw [if_neg e]
  by_cases e2:j<k
  ·rw [if_pos e2,if_pos (by omega)]
  ·rw [if_neg e2,if_neg (by omega)]
theorem tail_step (j k:Nat) (n:Nat) (x:Int) (h:x=U8 (be64b n k)):(if j=k then Value.int .u8 x else if j<k then bv (be64b n j) else .int .u8 0)=if j<k+1 then bv (be64b n j) else .int .u8 0:=by
 subst h
 by_cases e:j=k
 ·subst e;rw [if_pos rfl,if_pos (by omega)];rfl
 ·rw [if_neg e]
  by_cases e2:j<k
  ·rw [if_pos e2,if_pos (by omega)]
  ·rw [if_neg e2,if_neg (by omega)]
set_option maxHeartbeats 2000000 in
set_option maxRecDepth 100000 in
theorem hsum_any (B g:Nat) (l:List UInt8) (a:Option Addr) (n c:Nat) (w:World) (hH:HashAt w B g l a n c) (hl:l.length<140737488353000):
  Calls Tryz.prog 188 #[.pointer (some ⟨g,0,none⟩)] w fun e w'=>e= .returned (.agg (dgA l))∧Below w.heap.size w w':=by
 have hlt:=hH.lt
 go_enter Tryz.func188,Tryz.ntmps188
 go_upto_region 4 with (fail)
 refine wp_forget (fun W0=>HashAt W0 B g l a n c∧Blk W0 w.heap.size (vA 32 fun _=> .int .u8 0) 170∧Blk W0 (w.heap.size+1) (vA 32 fun _=> .int .u8 0) 170∧Below w.heap.size w W0) ⟨(hH.alloc _).alloc _,Blk.new2 _ _ _ _,Blk.new2' _ _ _ _,by (try unfold Kept);repeat (first|assumption|exact Below.refl _ _|exact below_undrew (Below.refl _ _)|exact Below.mono (by assumption) (by first|(simp;done)|(simp;omega)|omega)|refine below_setRow ?_ (by first|(simp;done)|(simp;omega)|omega) _|refine Below.setCell ?_ (by first|(simp;done)|(simp;omega)|omega) _|refine Below.alloc ?_ (by first|(simp;done)|(simp;omega)|omega) _|refine below_drewN ?_ _|refine Below.drew ?_|refine below_undrew ?_|refine below_step ?_ (by assumption))⟩ ?_
 rintro w0 ⟨hH,hR,hO,hb⟩
 obtain ⟨H,hHH⟩:∃H,H=w.heap.size:=⟨_,rfl⟩
 rw [←hHH] at hR hO hb⊢
 have HH:=Lib.hid hHH
 clear hHH
 go_wp2_with fail
 refine (copy_any B g l a n c _ hH).mono ?_
 rintro e w1 ⟨g2,a1,c1,rfl,hg2,hc1,hb1⟩
 have hc9:w1.cell? ⟨g,9,none⟩=some (.int .u64 (l.length:Int)):=(hH.hash.old hb1).atV (by omega) (hcs_9 _ _ _)
 have hHg:H+1<g2:=by have:=hO.lt;omega
 have hI:SmIn w H g2 l a1 n c1 w1:=⟨⟨hc1.hash,hc1.row.lower (by have:=hR.lt;omega),hc1.lt⟩,⟨_,vA_size _ _,hR.old hb1⟩,hO.old hb1,hb.trans (hb1.mono (by have:=hR.lt;omega))⟩
 clear hH hR hO hb hg2 hc1 hb1
 obtain ⟨L,hL⟩:∃L,L=l.length:=⟨_,rfl⟩
 rw [←hL] at hc9 hlt hl
 have HL:=Lib.hid hL
 clear hL
 go_wp2_with fail
 refine (write_any H g2 l [128] a1 n c1 _ 1 1 _ (hI.alloc _).hash (bytes1 128 rfl) rfl (by rw [←HL.out];omega) (by simp;have:=hI.out.lt;omega)).mono ?_
 rintro e w2 ⟨a2,n2,c2,rfl,hH2,hfr2,-⟩
 have hI2:=(hI.alloc (.cells #[bv 128] 5)).write hHg hH2 hfr2
 clear hI hH2 hfr2 hc9
 go_wp2_with fail
 have hst:Sm1 w H g2 l (zN l.length) w2:=⟨0,a2,n2,c2,by omega,by rw [show pdl l 0=l++ [128] by simp [pdl]];exact hI2⟩
 clear hI2
 go_loopg [30] (zN l.length) (fun f _ wr=>Sm1 w H g2 l f wr)
 case atStart=>exact hst
 case round=>
  clear hst
  obtain ⟨z,a,n,c,hf,hI⟩:=hrel
  have hcl:=hI.hash.cell
  have hnn:=hI.hash.left
  rw [pdl_length,←HL.out] at hnn
  have hf':=hf
  rw [←HL.out] at hf'
  have hz:z≤zN L:=by omega
  have hzn:(n=56↔z=zN L):=by unfold zN at hz⊢;omega
  have HF:=Lib.hid hf
  clear hf
  by_cases h56:n=56
  ·have HZ:=Lib.hid (hzn.1 h56)
   clear hnn hf' hzn hz
   subst h56
   go_wp2_with fail
   clear hcl
   have hIz:SmIn w H g2 (pdl l (zN l.length)) a 56 c wr:=by
    have:=HZ.out
    rw [HL.out] at this
    rw [←this];exact hI
   clear hI
   obtain ⟨T,hT⟩:∃T,T=wr.heap.size:=⟨_,rfl⟩
   have hgT:g2<T:=by have:=hIz.hash.hash.lt;omega
   have hT0:=Blk.new wr (vA 8 fun _=> .int .u8 0) 260
   rw [←hT] at hT0⊢
   refine wp_forget (fun W0=>SmIn w H g2 (pdl l (zN l.length)) a 56 c W0∧Blk W0 T (vA 8 fun _=> .int .u8 0) 260) ⟨hIz.alloc _,hT0⟩ ?_
   clear hIz hT hT0
   rintro w3 ⟨hI,hT⟩
   go_loopg [31] 8 (Sm2 w H g2 T l a 56 c)
   case atStart=>exact ⟨0,by omega,rfl,hI,hT⟩
   case round=>
    clear hI hT
    obtain ⟨k,hf,rfl,hI,hT⟩:=hrel
    have HF2:=Lib.hid hf
    clear hf
    by_cases hk:k<8
    ·have hcs:k=0∨k=1∨k=2∨k=3∨k=4∨k=5∨k=6∨k=7:=by omega
     rcases hcs with rfl|rfl|rfl|rfl|rfl|rfl|rfl|rfl
     ·have c0:=hT.atV (show 0<8 by omega) rfl
      have f0:=hT.free
      go_wp2_with fail
      clear c0 f0
      go_roundg (gk-1)
      case rel=>
       refine ⟨1,by have:=HF2.out;omega,rfl,⟨hI.hash.setCell hT (by decide) (by decide) _ _,by obtain ⟨z,hz,hZ⟩:=hI.res;exact ⟨z,hz,hZ.other _ _ (by show H≠T;omega)⟩,hI.out.other _ _ (by show H+1≠T;omega),hI.below.setCell (by show H≤T;omega) _⟩,?_⟩
       have E:=be64_at (l.length*8) L 0 72057594037927936 (by rw [HL.out]) rfl
       refine (hT.setV (by omega) _).ofV fun j _=> ?_
       exact tail_step j 0 _ _ (by first|exact E|(rw [←E];omega))
      case measure=>have:=HF2.out;omega
     ·have c0:=hT.atV (show 1<8 by omega) rfl
      have f0:=hT.free
      go_wp2_with fail
      clear c0 f0
      go_roundg (gk-1)
      case rel=>
       refine ⟨2,by have:=HF2.out;omega,rfl,⟨hI.hash.setCell hT (by decide) (by decide) _ _,by obtain ⟨z,hz,hZ⟩:=hI.res;exact ⟨z,hz,hZ.other _ _ (by show H≠T;omega)⟩,hI.out.other _ _ (by show H+1≠T;omega),hI.below.setCell (by show H≤T;omega) _⟩,?_⟩
       have E:=be64_at (l.length*8) L 1 281474976710656 (by rw [HL.out]) rfl
       refine (hT.setV (by omega) _).ofV fun j _=> ?_
       exact tail_step j 1 _ _ (by first|exact E|(rw [←E];omega))
      case measure=>have:=HF2.out;omega
     ·have c0:=hT.atV (show 2<8 by omega) rfl
      have f0:=hT.free
      go_wp2_with fail
      clear c0 f0
      go_roundg (gk-1)
      case rel=>
       refine ⟨3,by have:=HF2.out;omega,rfl,⟨hI.hash.setCell hT (by decide) (by decide) _ _,by obtain ⟨z,hz,hZ⟩:=hI.res;exact ⟨z,hz,hZ.other _ _ (by show H≠T;omega)⟩,hI.out.other _ _ (by show H+1≠T;omega),hI.below.setCell (by show H≤T;omega) _⟩,?_⟩
       have E:=be64_at (l.length*8) L 2 1099511627776 (by rw [HL.out]) rfl
       refine (hT.setV (by omega) _).ofV fun j _=> ?_
       exact tail_step j 2 _ _ (by first|exact E|(rw [←E];omega))
      case measure=>have:=HF2.out;omega
     ·have c0:=hT.atV (show 3<8 by omega) rfl
      have f0:=hT.free
      go_wp2_with fail
      clear c0 f0
      go_roundg (gk-1)
      case rel=>
       refine ⟨4,by have:=HF2.out;omega,rfl,⟨hI.hash.setCell hT (by decide) (by decide) _ _,by obtain ⟨z,hz,hZ⟩:=hI.res;exact ⟨z,hz,hZ.other _ _ (by show H≠T;omega)⟩,hI.out.other _ _ (by show H+1≠T;omega),hI.below.setCell (by show H≤T;omega) _⟩,?_⟩
       have E:=be64_at (l.length*8) L 3 4294967296 (by rw [HL.out]) rfl
       refine (hT.setV (by omega) _).ofV fun j _=> ?_
       exact tail_step j 3 _ _ (by first|exact E|(rw [←E];omega))
      case measure=>have:=HF2.out;omega
     ·have c0:=hT.atV (show 4<8 by omega) rfl
      have f0:=hT.free
      go_wp2_with fail
      clear c0 f0
      go_roundg (gk-1)
      case rel=>
       refine ⟨5,by have:=HF2.out;omega,rfl,⟨hI.hash.setCell hT (by decide) (by decide) _ _,by obtain ⟨z,hz,hZ⟩:=hI.res;exact ⟨z,hz,hZ.other _ _ (by show H≠T;omega)⟩,hI.out.other _ _ (by show H+1≠T;omega),hI.below.setCell (by show H≤T;omega) _⟩,?_⟩
       have E:=be64_at (l.length*8) L 4 16777216 (by rw [HL.out]) rfl
       refine (hT.setV (by omega) _).ofV fun j _=> ?_
       exact tail_step j 4 _ _ (by first|exact E|(rw [←E];omega))
      case measure=>have:=HF2.out;omega
     ·have c0:=hT.atV (show 5<8 by omega) rfl
      have f0:=hT.free
      go_wp2_with fail
      clear c0 f0
      go_roundg (gk-1)
      case rel=>
       refine ⟨6,by have:=HF2.out;omega,rfl,⟨hI.hash.setCell hT (by decide) (by decide) _ _,by obtain ⟨z,hz,hZ⟩:=hI.res;exact ⟨z,hz,hZ.other _ _ (by show H≠T;omega)⟩,hI.out.other _ _ (by show H+1≠T;omega),hI.below.setCell (by show H≤T;omega) _⟩,?_⟩
       have E:=be64_at (l.length*8) L 5 65536 (by rw [HL.out]) rfl
       refine (hT.setV (by omega) _).ofV fun j _=> ?_
       exact tail_step j 5 _ _ (by first|exact E|(rw [←E];omega))
      case measure=>have:=HF2.out;omega
     ·have c0:=hT.atV (show 6<8 by omega) rfl
      have f0:=hT.free
      go_wp2_with fail
      clear c0 f0
      go_roundg (gk-1)
      case rel=>
       refine ⟨7,by have:=HF2.out;omega,rfl,⟨hI.hash.setCell hT (by decide) (by decide) _ _,by obtain ⟨z,hz,hZ⟩:=hI.res;exact ⟨z,hz,hZ.other _ _ (by show H≠T;omega)⟩,hI.out.other _ _ (by show H+1≠T;omega),hI.below.setCell (by show H≤T;omega) _⟩,?_⟩
       have E:=be64_at (l.length*8) L 6 256 (by rw [HL.out]) rfl
       refine (hT.setV (by omega) _).ofV fun j _=> ?_
       exact tail_step j 6 _ _ (by first|exact E|(rw [←E];omega))
      case measure=>have:=HF2.out;omega
     ·have c0:=hT.atV (show 7<8 by omega) rfl
      have f0:=hT.free
      go_wp2_with fail
      clear c0 f0
      go_roundg (gk-1)
      case rel=>
       refine ⟨8,by have:=HF2.out;omega,rfl,⟨hI.hash.setCell hT (by decide) (by decide) _ _,by obtain ⟨z,hz,hZ⟩:=hI.res;exact ⟨z,hz,hZ.other _ _ (by show H≠T;omega)⟩,hI.out.other _ _ (by show H+1≠T;omega),hI.below.setCell (by show H≤T;omega) _⟩,?_⟩
       have E:=be64_at (l.length*8) L 7 1 (by rw [HL.out]) rfl
       refine (hT.setV (by omega) _).ofV fun j _=> ?_
       exact tail_step j 7 _ _ (by first|exact E|(rw [←E];omega))
      case measure=>have:=HF2.out;omega
    ·have:=HF2.out
     obtain rfl:k=8:=by omega
     clear this
     have hbytes:BytesAt wr (some ⟨T,0,none⟩) (be64 (l.length*8)):=by
      have hTT:=hT.ofV (g:=fun j=>bv (be64b (l.length*8) j)) fun j hj=>if_pos hj
      refine RowAt.mk fun j hj=> ?_
      rw [List.length_map,be64_length] at hj
      rw [Nat.zero_add,hTT.atV hj rfl]
      simp [be64]
     have hsl:=all8b T
     clear hT
     go_wp2_with fail
     refine (write_any H g2 (pdl l (zN l.length)) (be64 (l.length*8)) a 56 c _ 8 8 wr hI.hash hbytes (be64_length _) (by rw [pdl_length];unfold zN;have:=HL.out;omega) (by have:=hI.out.lt;omega)).mono ?_
     rintro e w4 ⟨a4,n4,c4,rfl,hH4,hfr4,-⟩
     have hI4:=hI.write hHg hH4 hfr4
     have hst:Sm3 w H g2 l 32 (.int .i64 0) w4:=⟨0,by omega,rfl,⟨_,_,hI4.hash.hash⟩,hI4.res,hI4.out.ofV fun j _=>by rw [if_neg (by omega)],hI4.below⟩
     clear hI hH4 hfr4 hI4 hsl hbytes
     go_wp2_with fail
     go_loopg [46] 32 (Sm3 w H g2 l)
     case atStart=>exact hst
     case round=>
      clear hst
      obtain ⟨k,hf,rfl,⟨r,nn,hG⟩,⟨z,hz,hZ⟩,hO,hb⟩:=hrel
      have HF3:=Lib.hid hf
      clear hf
      by_cases hk:k<32
      ·have tk:decide ((k:Int)<32)=true:=by simp;omega
       have hkI:(k:Int)<32:=by omega
       obtain ⟨p,hp⟩:∃p,p=k/4:=⟨_,rfl⟩
       have hpI:(k:Int)/4=(p:Int):=by omega
       have hp8:(p:Int)<8:=by omega
       have c0:wr.cell? ⟨g2,p,none⟩=some (.int .u32 (U32 (endw l p))):=hG.atV (by omega) (hcs_h _ _ _ (by omega))
       have c1:=hO.atV hk rfl
       have f1:=hO.free
       have HP:=Lib.hid hp
       clear hp
       have hq:k%4=0∨k%4=1∨k%4=2∨k%4=3:=by omega
       rcases hq with hq|hq|hq|hq
       ·have e2:(k:Int)%4=0:=by omega
        clear hq
        go_wp2_with fail
        clear c0 c1 f1
        go_roundg (gk-1)
        case rel=>
         have:=HF3.out
         refine ⟨k+1,by omega,by go_num,⟨r,nn,hG.other _ _ (by show g2≠H+1;omega)⟩,⟨z,hz,hZ.other _ _ (by show H≠H+1;omega)⟩,(hO.setV hk _).ofV fun j _=> ?_,hb.setCell (by show H≤H+1;omega) _⟩
         exact dg_step l j k _ (by
          have E:=dg_byte (endw l p) 24 16777216 rfl
          have e3:k%4=0:=by omega
          rw [dgb,e3,←HP.out]
          first|exact E|(rw [←E];omega))
        case measure=>have:=HF3.out;omega
       ·have e2:(k:Int)%4=1:=by omega
        clear hq
        go_wp2_with fail
        clear c0 c1 f1
        go_roundg (gk-1)
        case rel=>
         have:=HF3.out
         refine ⟨k+1,by omega,by go_num,⟨r,nn,hG.other _ _ (by show g2≠H+1;omega)⟩,⟨z,hz,hZ.other _ _ (by show H≠H+1;omega)⟩,(hO.setV hk _).ofV fun j _=> ?_,hb.setCell (by show H≤H+1;omega) _⟩
         exact dg_step l j k _ (by
          have E:=dg_byte (endw l p) 16 65536 rfl
          have e3:k%4=1:=by omega
          rw [dgb,e3,←HP.out]
          first|exact E|(rw [←E];omega))
        case measure=>have:=HF3.out;omega
       ·have e2:(k:Int)%4=2:=by omega
        clear hq
        go_wp2_with fail
        clear c0 c1 f1
        go_roundg (gk-1)
        case rel=>
         have:=HF3.out
         refine ⟨k+1,by omega,by go_num,⟨r,nn,hG.other _ _ (by show g2≠H+1;omega)⟩,⟨z,hz,hZ.other _ _ (by show H≠H+1;omega)⟩,(hO.setV hk _).ofV fun j _=> ?_,hb.setCell (by show H≤H+1;omega) _⟩
         exact dg_step l j k _ (by
          have E:=dg_byte (endw l p) 8 256 rfl
          have e3:k%4=2:=by omega
          rw [dgb,e3,←HP.out]
          first|exact E|(rw [←E];omega))
        case measure=>have:=HF3.out;omega
       ·have e2:(k:Int)%4=3:=by omega
        clear hq
        go_wp2_with fail
        clear c0 c1 f1
        go_roundg (gk-1)
        case rel=>
         have:=HF3.out
         refine ⟨k+1,by omega,by go_num,⟨r,nn,hG.other _ _ (by show g2≠H+1;omega)⟩,⟨z,hz,hZ.other _ _ (by show H≠H+1;omega)⟩,(hO.setV hk _).ofV fun j _=> ?_,hb.setCell (by show H≤H+1;omega) _⟩
         exact dg_step l j k _ (by
          have E:=dg_byte (endw l p) 0 1 rfl
          have e3:k%4=3:=by omega
          rw [dgb,e3,←HP.out]
          first|exact E|(rw [←E];omega))
        case measure=>have:=HF3.out;omega
      ·obtain rfl:k=32:=by have:=HF3.out;omega
       have tk:decide (((32:Nat):Int)<32)=false:=by simp
       replace hO:=hO.ofV (g:=fun j=>bv (dgb l j)) fun j hj=>if_pos hj
       clear hG
       go_wp2_with (first|refine wpList_load_blk rfl 170 agg32 _ rfl rfl hO (vA_size _ _) ?_|refine wpList_store_blk rfl 170 agg32 (.tmp 2) _ (cells:=dgA l) rfl rfl rfl hZ (vA_size _ _) hz (vA_one fun _ _=>rfl) ?_)
       refine post_blk rfl agg32 rfl (hZ.setRow _) (vA_size _ _) rfl ⟨rfl,?_⟩
       rw [HH.out] at hb⊢
       exact below_setRow hb (by omega) _
  ·have t56:((n:Int) !=56)=true:=by simp;omega
   have hzlt:z<zN L:=by omega
   have hzn2:zN L<64:=by unfold zN;omega
   clear hnn hf' hzn hz
   go_wp2_with fail
   clear hcl
   refine (write_any H g2 (pdl l z) [0] a n c _ 1 1 _ (hI.alloc _).hash (bytes1 0 rfl) rfl (by rw [pdl_length];have:=HL.out;omega) (by simp;have:=hI.out.lt;omega)).mono ?_
   rintro e w4 ⟨a4,n4,c4,rfl,hH4,hfr4,-⟩
   have hI4:=(hI.alloc (.cells #[bv 0] 5)).write hHg hH4 hfr4
   clear hI hH4 hfr4
   go_wp2_with fail
   go_roundg (gk-1)
   case rel=>exact ⟨z+1,a4,n4,c4,by have:=HF.out;rw [←HL.out] at this⊢;omega,by rw [pdl_succ];exact hI4⟩
   case measure=>have:=HF.out;rw [←HL.out] at this;omega
set_option maxHeartbeats 1000000 in
set_option maxRecDepth 100000 in
theorem shsum_any (l:List UInt8) (a:Option Addr) (len cap:Nat) (w:World) (hl:BytesAt w a l) (hlen:l.length=len) (hm:len<140737488353000):
  Calls Tryz.prog 197 #[.slice a len cap] w fun e w'=>e= .returned (.agg (dgA l))∧Below w.heap.size w w':=by
 have HL:=Lib.hid hlen
 clear hlen
 go_enter Tryz.func197,Tryz.ntmps197
 go_upto_region 1 with (fail)
 refine wp_forget (fun W0=>Blk W0 w.heap.size (vA 32 fun _=> .int .u8 0) 170∧Below w.heap.size w W0) ⟨Blk.new _ _ _,by (try unfold Kept);repeat (first|assumption|exact Below.refl _ _|exact below_undrew (Below.refl _ _)|exact Below.mono (by assumption) (by first|(simp;done)|(simp;omega)|omega)|refine below_setRow ?_ (by first|(simp;done)|(simp;omega)|omega) _|refine Below.setCell ?_ (by first|(simp;done)|(simp;omega)|omega) _|refine Below.alloc ?_ (by first|(simp;done)|(simp;omega)|omega) _|refine below_drewN ?_ _|refine Below.drew ?_|refine below_undrew ?_|refine below_step ?_ (by assumption))⟩ ?_
 rintro w0 ⟨hR,hb⟩
 obtain ⟨H,hH⟩:∃H,H=w.heap.size:=⟨_,rfl⟩
 rw [←hH] at hR hb⊢
 have HH:=Lib.hid hH
 clear hH
 go_wp2_with fail
 refine (shnew_any _).mono ?_
 rintro e w1 ⟨g,rfl,hg,hB,hb1⟩
 have hR1:=hR.old hb1
 have hb01:Below H w w1:=hb.trans (hb1.mono (by have:=hR.lt;omega))
 have hHg:H<g:=by have:=hR.lt;omega
 clear hR hb hg hb1
 go_wp2_with fail
 refine (write_any H g [] l none 0 0 a len cap _ (HashAt.nil hB H) (hl.below (HH.out▸hb01)) HL.out (by simp;omega) (by have:=hR1.lt;omega)).mono ?_
 rintro e w2 ⟨a2,n2,c2,rfl,hH2,hfr,-⟩
 have hR2:=hfr.blk hR1 (by omega) (by simp [rowB])
 have hb02:Below H w w2:=hb01.trans (hfr.below (by omega) (by simp [rowB]) (by have:=hR1.lt;omega))
 rw [List.nil_append] at hH2
 clear hR1 hb01 hfr hB
 go_wp2_with fail
 refine (hsum_any H g l a2 n2 c2 _ hH2 (by rw [HL.out];exact hm)).mono ?_
 rintro e w3 ⟨rfl,hb3⟩
 have hR3:=hR2.old hb3
 go_wp2_with (refine wpList_store_blk rfl 170 agg32 (.tmp 2) _ (cells:=dgA l) rfl rfl rfl hR3 (vA_size _ _) (vA_size _ _) (vA_one fun _ _=>rfl) ?_)
 refine post_blk rfl agg32 rfl (hR3.setRow _) (vA_size _ _) rfl ⟨rfl,?_⟩
 have hb03:=hb02.trans (hb3.mono (by have:=hR2.lt;omega))
 rw [HH.out] at hb03⊢
 exact below_setRow hb03 (by omega) _
theorem run_equalIn_vA (d:Nat) (t e:TypeId) {P:Program} (n:Nat) (ht:P.underlying t=some (.array n e)) (he:P.underlying e=some (.int .u8)) (hsz:∀w,(sizeOf e).run P w= .ok 1 w)
  (s u:Nat→UInt8) (w:World):
  (Op.equalIn (d+2) t (.agg (vA n fun i=>bv (s i))) (.agg (vA n fun i=>bv (u i)))).run P w= .ok ((List.range n).all fun i=>s i==u i) w:=by
 rw [List.range_eq_range',Op.equalIn]
 simp only [Sem.run_bind,run_underlying ht,Result.andThen_ok,hsz,Std.Legacy.Range.forIn_eq_forIn_range',Std.Legacy.Range.size,Nat.sub_zero,Nat.add_sub_cancel,Nat.div_one]
 have hl:∀i∈List.range' 0 n 1,i<n:=fun i hi=>by simpa using (List.mem_range'_1.1 hi).2
 generalize List.range' 0 n 1=l at hl⊢
 induction l with
 |nil=>simp
 |cons i l ih=>
  have hi:i<n:=hl i (by simp)
  have px:(part e (vA n fun i=>bv (s i)) (i*1)).run P w= .ok (.int .u8 (U8 (s i))) w:=by
   simp [part,isAgg,run_underlying he,vA_at _ hi,bv]
  have py:(part e (vA n fun i=>bv (u i)) (i*1)).run P w= .ok (.int .u8 (U8 (u i))) w:=by
   simp [part,isAgg,run_underlying he,vA_at _ hi,bv]
  have pe:(Op.equalIn (d+1) e (.int .u8 (U8 (s i))) (.int .u8 (U8 (u i)))).run P w= .ok (s i==u i) w:=by
   rw [run_equalIn_int w d e .u8 .u8 _ _ he,U8_beq]
  simp only [List.forIn_cons,Sem.run_bind,px,py,pe,Result.andThen_ok,List.all_cons]
  cases hb:(s i==u i)
  ·simp
  ·simp only [Bool.not_true,Bool.false_eq_true,if_false,Sem.run_pure,Result.andThen_ok,Bool.true_and]
   exact ih fun j hj=>hl j (by simp [hj])
end
section
open Go.RowKit
def dgl (l:List UInt8):List UInt8:=(List.range 32).map (dgb l)
def bkey (k:List UInt8) (i:Nat):UInt8:=if 64<k.length then (if i<32 then dgb k i else 0) else k.getD i 0
def padl (f:Nat→UInt8) (x:UInt8):List UInt8:=(List.range 64).map fun i=>f i^^^x
def hin (k b:List UInt8):List UInt8:=padl (bkey k) 54++b
def hout (k b:List UInt8):List UInt8:=padl (bkey k) 92++dgl (hin k b)
def mcA (k b:List UInt8):Array Value:=dgA (hout k b)
theorem dgl_length (l:List UInt8):(dgl l).length=32:=by simp [dgl]
theorem padl_length (f:Nat→UInt8) (x:UInt8):(padl f x).length=64:=by simp [padl]
theorem list_vA (l:List UInt8):(l.map bv).toArray=vA l.length fun i=>bv (l.getD i 0):=by
 refine vA_of (by simp) fun i hi=> ?_
 simp [hi]
theorem vL_bv (n:Nat) (f:Nat→UInt8):vL n (fun i=>bv (f i))=((List.range n).map f).map bv:=by simp [vL]
theorem wpList_copy_nil {P:Program} {o:Oper} {a:Act} {w:World} {ops:Array Oper} {rest:List Oper} {Q:Exit→Act→World→Prop} (hgd:o.guard=none) (d s:Operand) (dT sT:TypeId)
  (ho:o.op= .call {callee:= .builtin .copy,args:= #[d,s],argTypes:= #[dT,sT]}) {elem:TypeId} (hu:P.underlying dT=some (.slice elem)) (hsz:(P.info? elem).map (·.size)=some 1)
  {ad:Addr} {n c m:Nat} (hd:a.eval d= .slice (some ad) n c) (hs:a.eval s= .slice none 0 m)
  (h:wpList P ops Q rest (a.put o.dst (goInt 0)) w):wpList P ops Q (o::rest) a w:=by
 refine wpList_plain hgd fun K hK=> ?_
 have hrun:(Builtin.copy_ #[dT,sT] o.type #[.slice (some ad) n c,.slice none 0 m]).run P w= .ok (goInt 0) w:=by
  simp [Builtin.copy_,run_underlying hu,sized_run hsz,Builtin.lenOf,Builtin.firstCells,storeCells]
 unfold Oper.wp
 simp [execOp,ho,resolve,invoke,builtin,hd,hs,hrun,Result.andThen]
 exact hK _ _ h
theorem agg64b:AggT Tryz.prog 257 64:=⟨⟨_,Tryz.underlying257,rfl⟩,by kernel_rfl⟩
theorem zero64b:(Tryz.prog.info? 257).bind (·.zero)=some (.agg (vA 64 fun _=> .int .u8 0)):=by kernel_rfl
theorem len64b:Tryz.prog.arrayLen 257=64:=by kernel_rfl
theorem elem64b:Tryz.prog.elem 257=5:=by kernel_rfl
theorem arr64b:Tryz.prog.underlying 257=some (.array (Tryz.prog.arrayLen 257) (Tryz.prog.elem 257)):=by rw [len64b,elem64b];exact Tryz.underlying257
theorem all64b (b:Nat) (W:World):(Instr.sliceAt 257 (.pointer (some ⟨b,0,none⟩)) none none none).run Tryz.prog W= .ok (.slice (some ⟨b,0,none⟩) 64 64) W:=by
 rw [run_sliceAt_array_all W _ _ arr64b,elem64b,sized_run u8Info,len64b]
 simp [slicedAt];rfl
theorem len32b:Tryz.prog.arrayLen 170=32:=by kernel_rfl
theorem elem32b:Tryz.prog.elem 170=5:=by kernel_rfl
theorem arr32b:Tryz.prog.underlying 170=some (.array (Tryz.prog.arrayLen 170) (Tryz.prog.elem 170)):=by rw [len32b,elem32b];exact Tryz.underlying170
theorem all32b (b:Nat) (W:World):(Instr.sliceAt 170 (.pointer (some ⟨b,0,none⟩)) none none none).run Tryz.prog W= .ok (.slice (some ⟨b,0,none⟩) 32 32) W:=by
 rw [run_sliceAt_array_all W _ _ arr32b,elem32b,sized_run u8Info,len32b]
 simp [slicedAt];rfl
theorem dgl_at {w:World} {b:Nat} {l:List UInt8} (h:Blk w b (dgA l) 170):BytesAt w (some ⟨b,0,none⟩) (dgl l):=by
 have e:(dgl l).map bv=vL 32 fun i=>bv (dgb l i):=by rw [vL_bv];rfl
 unfold BytesAt
 rw [e]
 exact RowAt.mk fun j hj=>by
  rw [vL_length] at hj
  rw [Nat.zero_add,h.rule,dgA,vA_at _ hj]
  simp [vL]
set_option maxHeartbeats 1000000 in
set_option maxRecDepth 100000 in
theorem mblock_any (l:List UInt8) (a:Option Addr) (len cap:Nat) (w:World) (hm:BytesAt w a l) (hl:l.length=len) (hmax:len<140737488353000):
  Calls Tryz.prog 184 #[.slice a len cap] w fun e w'=>e= .returned (.agg (vA 64 fun i=>bv (bkey l i)))∧Below w.heap.size w w':=by
 obtain ⟨H,hH⟩:∃H,H=w.heap.size:=⟨_,rfl⟩
 rw [←hH]
 have HL:=Lib.hid hl
 clear hl
 have hz1:=zero_run zero64b
 have q1:=all64b H
 have hB0:=Blk.new w (vA 64 fun _=> .int .u8 0) 257
 by_cases hbig:64<len
 ·have tI:decide ((64:Int)<(len:Int))=true:=by simp;omega
  have tt:decide (64<len)=true:=by simpa using hbig
  go_enter Tryz.func184,Tryz.ntmps184
  go_upto_region 1 with fail
  clear hz1
  rw [←hH] at hB0⊢
  refine wp_forget (fun W0=>Blk W0 H (vA 64 fun _=> .int .u8 0) 257∧BytesAt W0 a l∧Below H w W0) ⟨hB0,hm.alloc _,by rw [hH];(try unfold Kept);repeat (first|assumption|exact Below.refl _ _|exact below_undrew (Below.refl _ _)|exact Below.mono (by assumption) (by first|(simp;done)|(simp;omega)|omega)|refine below_setRow ?_ (by first|(simp;done)|(simp;omega)|omega) _|refine Below.setCell ?_ (by first|(simp;done)|(simp;omega)|omega) _|refine Below.alloc ?_ (by first|(simp;done)|(simp;omega)|omega) _|refine below_drewN ?_ _|refine Below.drew ?_|refine below_undrew ?_|refine below_step ?_ (by assumption))⟩ ?_
  have HH:=Lib.hid hH
  clear hB0 hm hH
  rintro w1 ⟨hB,hm,hb⟩
  go_wp2_with fail
  refine (shsum_any l a len cap _ hm HL.out hmax).mono ?_
  rintro e w2 ⟨rfl,hb2⟩
  have hB2:=hB.old hb2
  have hlt:=hB.lt
  have hb02:=hb.trans (hb2.mono (by omega))
  clear hm hB hb
  go_upto_region 3 with (refine wpList_store_blk rfl 170 agg32 (.tmp 3) _ (cells:=dgA l) rfl rfl rfl (Blk.new _ _ _) (vA_size _ _) rfl (vA_one fun _ _=>rfl) ?_)
  obtain ⟨K,hK⟩:∃K,K=w2.heap.size:=⟨_,rfl⟩
  have hK0:=Blk.new w2 (vA 32 fun _=> .int .u8 0) 170
  have hHK:H<K:=by have:=hb2.size;omega
  rw [←hK] at hK0⊢
  refine wp_forget (fun W0=>Blk W0 H (vA 64 fun _=> .int .u8 0) 257∧Blk W0 K (dgA l) 170∧Below H w W0) ⟨(hB2.alloc _).setRow_other _ _ (by omega),hK0.setRow _,below_setRow (hb02.alloc (by omega) _) (by omega) _⟩ ?_
  clear hB2 hK0 hK hb02 hb2 hlt
  rintro w3 ⟨hB,hKd,hb⟩
  have q2:=all32b K
  have hrow:=RowAt.all (dgl_at hKd)
  have hsp:splice (vA 64 fun _=>Value.int .u8 0) 0 ((dgl l).map bv).toArray=vA 64 fun i=>bv (bkey l i):=by
   rw [list_vA,vA_splice _ _ (by rw [dgl_length];omega),dgl_length]
   refine vA_eq fun i hi=> ?_
   have hbk:bkey l i=if i<32 then dgb l i else 0:=by rw [bkey,if_pos (by rw [HL.out];exact hbig)]
   rw [hbk]
   by_cases e:i<32
   ·rw [if_pos ⟨by omega,by omega⟩,if_pos e,List.getD_eq_getElem?_getD]
    simp [dgl,e]
   ·rw [if_neg (by omega),if_neg e];rfl
  have HSP:=Lib.hid hsp
  clear hsp
  go_upto_region 5 with (refine wpList_copy_row rfl (.tmp 10) (.tmp 11) 22 22 rfl Tryz.underlying22 u8Info rfl rfl hB (cs:=(dgl l).map bv) (by rw [List.length_map,dgl_length];rfl) hrow (by rw [List.length_map,vA_size,dgl_length];omega) (bv_one _) ?_)
  rw [HSP.out]
  refine wp_forget (fun W0=>Blk W0 H (vA 64 fun i=>bv (bkey l i)) 257∧Below H w W0) ⟨hB.setRow _,below_setRow hb (Nat.le_refl _) _⟩ ?_
  clear hB hb hrow hKd q2
  rintro w2 ⟨hB,hb⟩
  go_wp2_with (first|refine wpList_load_blk rfl 257 agg64b _ rfl rfl hB (vA_size _ _) ?_|refine wpList_store_blk rfl 257 agg64b (.tmp 2) _ (cells:=vA 64 fun i=>bv (bkey l i)) rfl rfl rfl hB (vA_size _ _) (vA_size _ _) (vA_one fun _ _=>rfl) ?_)
  exact post_blk rfl agg64b rfl (hB.setRow _) (vA_size _ _) rfl ⟨rfl,below_setRow hb (Nat.le_refl _) _⟩
 ·have tI:decide ((64:Int)<(len:Int))=false:=by simp;omega
  have tt:decide (64<len)=false:=by simpa using hbig
  go_enter Tryz.func184,Tryz.ntmps184
  go_upto_region 1 with fail
  clear hz1
  rw [←hH] at hB0⊢
  refine wp_forget (fun W0=>Blk W0 H (vA 64 fun _=> .int .u8 0) 257∧BytesAt W0 a l∧Below H w W0) ⟨hB0,hm.alloc _,by rw [hH];(try unfold Kept);repeat (first|assumption|exact Below.refl _ _|exact below_undrew (Below.refl _ _)|exact Below.mono (by assumption) (by first|(simp;done)|(simp;omega)|omega)|refine below_setRow ?_ (by first|(simp;done)|(simp;omega)|omega) _|refine Below.setCell ?_ (by first|(simp;done)|(simp;omega)|omega) _|refine Below.alloc ?_ (by first|(simp;done)|(simp;omega)|omega) _|refine below_drewN ?_ _|refine Below.drew ?_|refine below_undrew ?_|refine below_step ?_ (by assumption))⟩ ?_
  have HH:=Lib.hid hH
  clear hB0 hm hH
  rintro w1 ⟨hB,hm,hb⟩
  cases a with
  |none=>
   have hl0:l=[]:=by
    cases hl:l with
    |nil=>rfl
    |cons x r=>subst hl;obtain ⟨b,o,he,_⟩:=hm 0 (by simp);cases he
   subst hl0
   obtain rfl:len=0:=by have:=HL.out;simpa using this.symm
   go_wp2_with (first|refine wpList_copy_nil rfl (.tmp 10) (.tmp 11) 22 22 rfl Tryz.underlying22 u8Info rfl rfl ?_|refine wpList_load_blk rfl 257 agg64b _ rfl rfl hB (vA_size _ _) ?_|refine wpList_store_blk rfl 257 agg64b (.tmp 2) _ (cells:=vA 64 fun _=> .int .u8 0) rfl rfl rfl hB (vA_size _ _) (vA_size _ _) (vA_one fun _ _=>rfl) ?_)
   refine post_blk rfl agg64b rfl ((hB.setRow _).ofV (g:=fun i=>bv (bkey [] i)) fun i _=> ?_) (vA_size _ _) rfl ⟨rfl,below_setRow hb (Nat.le_refl _) _⟩
   simp [bkey,bv,U8]
  |some ad=>
   have hlen64:l.length≤64:=by have:=HL.out;omega
   have hcs:(l.map bv).length=Nat.min len 64:=by
    rw [List.length_map,HL.out];exact (Nat.min_eq_left (by omega)).symm
   have hrow:=RowAt.all hm
   have hsp:splice (vA 64 fun _=>Value.int .u8 0) 0 (l.map bv).toArray=vA 64 fun i=>bv (bkey l i):=by
    rw [list_vA,vA_splice _ _ (by omega)]
    refine vA_eq fun i hi=> ?_
    have hbk:bkey l i=l.getD i 0:=by rw [bkey,if_neg (by omega)]
    rw [hbk]
    by_cases e:i<l.length
    ·rw [if_pos ⟨by omega,by omega⟩];rfl
    ·rw [if_neg (by omega),List.getD_eq_getElem?_getD,List.getElem?_eq_none (by omega)];rfl
   have HSP:=Lib.hid hsp
   clear hsp hlen64
   go_upto_region 5 with (refine wpList_copy_row rfl (.tmp 10) (.tmp 11) 22 22 rfl Tryz.underlying22 u8Info rfl rfl hB (cs:=l.map bv) hcs hrow (by rw [List.length_map,vA_size,HL.out];omega) (bv_one _) ?_)
   rw [HSP.out]
   refine wp_forget (fun W0=>Blk W0 H (vA 64 fun i=>bv (bkey l i)) 257∧Below H w W0) ⟨hB.setRow _,below_setRow hb (Nat.le_refl _) _⟩ ?_
   clear hB hb hm hrow hcs
   rintro w2 ⟨hB,hb⟩
   go_wp2_with (first|refine wpList_load_blk rfl 257 agg64b _ rfl rfl hB (vA_size _ _) ?_|refine wpList_store_blk rfl 257 agg64b (.tmp 2) _ (cells:=vA 64 fun i=>bv (bkey l i)) rfl rfl rfl hB (vA_size _ _) (vA_size _ _) (vA_one fun _ _=>rfl) ?_)
   exact post_blk rfl agg64b rfl (hB.setRow _) (vA_size _ _) rfl ⟨rfl,below_setRow hb (Nat.le_refl _) _⟩
def Wi1 (w:World) (H:Nat) (f:Nat→UInt8) (x:UInt8) (g:Nat) (i:Value) (wr:World):Prop:=
 ∃t:Nat,g+t=64∧i= .int .i64 (t:Int)∧Blk wr H (vA 64 fun j=>bv (if j<t then f j^^^x else f j)) 257∧Below H w wr
attribute [local go_sem] bits_xor_u8 ofInt_U8
set_option maxHeartbeats 1000000 in
set_option maxRecDepth 100000 in
theorem mwith_any (f:Nat→UInt8) (x:UInt8) (z:Int) (hz:z=U8 x) (w:World):
  Calls Tryz.prog 186 #[.agg (vA 64 fun i=>bv (f i)),.int .u8 z] w fun e w'=>∃g,e= .returned (.slice (some ⟨g,0,none⟩) 64 64)∧w.heap.size≤g∧BytesAt w' (some ⟨g,0,none⟩) (padl f x)∧Below w.heap.size w w':=by
 subst hz
 obtain ⟨H,hH⟩:∃H,H=w.heap.size:=⟨_,rfl⟩
 rw [←hH]
 have q1:=all64b H
 have hB0:=Blk.new w (vA 64 fun i=>bv (f i)) 257
 go_enter Tryz.func186,Tryz.ntmps186
 go_upto_region 1 with fail
 rw [←hH] at hB0⊢
 refine wp_forget (fun W0=>Blk W0 H (vA 64 fun i=>bv (f i)) 257∧Below H w W0) ⟨hB0,by rw [hH];(try unfold Kept);repeat (first|assumption|exact Below.refl _ _|exact below_undrew (Below.refl _ _)|exact Below.mono (by assumption) (by first|(simp;done)|(simp;omega)|omega)|refine below_setRow ?_ (by first|(simp;done)|(simp;omega)|omega) _|refine Below.setCell ?_ (by first|(simp;done)|(simp;omega)|omega) _|refine Below.alloc ?_ (by first|(simp;done)|(simp;omega)|omega) _|refine below_drewN ?_ _|refine Below.drew ?_|refine below_undrew ?_|refine below_step ?_ (by assumption))⟩ ?_
 have HH:=Lib.hid hH
 clear hB0 hH
 rintro w1 ⟨hB,hb⟩
 go_wp2_with fail
 go_loopg [5,6] 64 (fun g _ i wr=>Wi1 w H f x g i wr)
 case atStart=>exact ⟨0,by omega,rfl,hB.ofV fun j _=>by rw [if_neg (by omega)],hb⟩
 case round=>
  clear hB hb
  obtain ⟨t,hf,rfl,hB,hb⟩:=hrel
  by_cases ht:t<64
  ·have tt:decide ((t:Int)<64)=true:=by simp;omega
   have htI:(t:Int)<64:=by omega
   have c0:wr.cell? ⟨H,t,none⟩=some (.int .u8 (U8 (f t))):=hB.atV ht (by rw [if_neg (by omega)];rfl)
   have f0:=hB.free
   have HF:=Lib.hid hf
   clear hf
   go_wp2_with fail
   clear c0 f0
   go_roundg (gk-1)
   case rel=>
    have hf:=HF.out
    refine ⟨t+1,by omega,by go_num,(hB.setV ht _).ofV fun j _=> ?_,hb.setCell (by show H≤H;omega) _⟩
    by_cases e:j=t
    ·subst e;rw [if_pos rfl,if_pos (by omega)];rfl
    ·rw [if_neg e]
     by_cases e2:j<t
     ·rw [if_pos e2,if_pos (by omega)]
     ·rw [if_neg e2,if_neg (by omega)]
   case measure=>have hf:=HF.out;omega
  ·obtain rfl:t=64:=by omega
   have tt:decide (((64:Nat):Int)<64)=false:=by simp
   clear hf
   go_wp2_with fail
   go_ret
   refine ⟨H,rfl,Nat.le_refl _,?_,hb⟩
   have hB2:=hB.ofV (g:=fun j=>bv (f j^^^x)) fun j hj=>by rw [if_pos hj]
   refine RowAt.mk fun j hj=> ?_
   rw [List.length_map,padl_length] at hj
   rw [Nat.zero_add,hB2.atV hj rfl]
   simp [padl]
end
end Go.Proofs.YtioigihakjlopaaGreat
