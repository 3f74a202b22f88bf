/- Texts put together and cut to what is used: Mac, MacNew, MacSum, ShaR, MacRef, MacRefSum. -/
import Derived.Test.YtioigihakjlopaaGreatVK13
import Derived.Test.YtioigihakjlopaaGreatVK21
namespace Go.Proofs.YtioigihakjlopaaGreat
set_option linter.unusedVariables false
set_option linter.unusedSimpArgs false
section
open Go.RowKit
def dgl (l:List UInt8):List UInt8:=(List.range 32).map (dgb l)
def bkey (k:List UInt8) (i:Nat):UInt8:=if 64<k.length then (if i<32 then dgb k i else 0) else k.getD i 0
def padl (f:Nat→UInt8) (x:UInt8):List UInt8:=(List.range 64).map fun i=>f i^^^x
def hin (k b:List UInt8):List UInt8:=padl (bkey k) 54++b
def hout (k b:List UInt8):List UInt8:=padl (bkey k) 92++dgl (hin k b)
def mcA (k b:List UInt8):Array Value:=dgA (hout k b)
theorem dgl_length (l:List UInt8):(dgl l).length=32:=by simp [dgl]
theorem padl_length (f:Nat→UInt8) (x:UInt8):(padl f x).length=64:=by simp [padl]
theorem list_vA (l:List UInt8):(l.map bv).toArray=vA l.length fun i=>bv (l.getD i 0):=by
 refine vA_of (by simp) fun i hi=> ?_
 simp [hi]
theorem vL_bv (n:Nat) (f:Nat→UInt8):vL n (fun i=>bv (f i))=((List.range n).map f).map bv:=by simp [vL]
theorem wpList_copy_nil {P:Program} {o:Oper} {a:Act} {w:World} {ops:Array Oper} {rest:List Oper} {Q:Exit→Act→World→Prop} (hgd:o.guard=none) (d s:Operand) (dT sT:TypeId)
  (ho:o.op= .call {callee:= .builtin .copy,args:= #[d,s],argTypes:= #[dT,sT]}) {elem:TypeId} (hu:P.underlying dT=some (.slice elem)) (hsz:(P.info? elem).map (·.size)=some 1)
  {ad:Addr} {n c m:Nat} (hd:a.eval d= .slice (some ad) n c) (hs:a.eval s= .slice none 0 m)
  (h:wpList P ops Q rest (a.put o.dst (goInt 0)) w):wpList P ops Q (o::rest) a w:=by
 refine wpList_plain hgd fun K hK=> ?_
 have hrun:(Builtin.copy_ #[dT,sT] o.type #[.slice (some ad) n c,.slice none 0 m]).run P w= .ok (goInt 0) w:=by
  simp [Builtin.copy_,run_underlying hu,sized_run hsz,Builtin.lenOf,Builtin.firstCells,storeCells]
 unfold Oper.wp
 simp [execOp,ho,resolve,invoke,builtin,hd,hs,hrun,Result.andThen]
 exact hK _ _ h
theorem agg64b:AggT Tryz.prog 257 64:=⟨⟨_,Tryz.underlying257,rfl⟩,by kernel_rfl⟩
theorem zero64b:(Tryz.prog.info? 257).bind (·.zero)=some (.agg (vA 64 fun _=> .int .u8 0)):=by kernel_rfl
theorem len64b:Tryz.prog.arrayLen 257=64:=by kernel_rfl
theorem elem64b:Tryz.prog.elem 257=5:=by kernel_rfl
theorem arr64b:Tryz.prog.underlying 257=some (.array (Tryz.prog.arrayLen 257) (Tryz.prog.elem 257)):=by rw [len64b,elem64b];exact Tryz.underlying257
theorem all64b (b:Nat) (W:World):(Instr.sliceAt 257 (.pointer (some ⟨b,0,none⟩)) none none none).run Tryz.prog W= .ok (.slice (some ⟨b,0,none⟩) 64 64) W:=by
 rw [run_sliceAt_array_all W _ _ arr64b,elem64b,sized_run u8Info,len64b]
 simp [slicedAt];rfl
theorem len32b:Tryz.prog.arrayLen 170=32:=by kernel_rfl
theorem elem32b:Tryz.prog.elem 170=5:=by kernel_rfl
theorem arr32b:Tryz.prog.underlying 170=some (.array (Tryz.prog.arrayLen 170) (Tryz.prog.elem 170)):=by rw [len32b,elem32b];exact Tryz.underlying170
theorem all32b (b:Nat) (W:World):(Instr.sliceAt 170 (.pointer (some ⟨b,0,none⟩)) none none none).run Tryz.prog W= .ok (.slice (some ⟨b,0,none⟩) 32 32) W:=by
 rw [run_sliceAt_array_all W _ _ arr32b,elem32b,sized_run u8Info,len32b]
 simp [slicedAt];rfl
theorem dgl_at {w:World} {b:Nat} {l:List UInt8} (h:Blk w b (dgA l) 170):BytesAt w (some ⟨b,0,none⟩) (dgl l):=by
 have e:(dgl l).map bv=vL 32 fun i=>bv (dgb l i):=by rw [vL_bv];rfl
 unfold BytesAt
 rw [e]
 exact RowAt.mk fun j hj=>by
  rw [vL_length] at hj
  rw [Nat.zero_add,h.rule,dgA,vA_at _ hj]
  simp [vL]
set_option maxHeartbeats 1000000 in
set_option maxRecDepth 100000 in
theorem mblock_any (l:List UInt8) (a:Option Addr) (len cap:Nat) (w:World) (hm:BytesAt w a l) (hl:l.length=len) (hmax:len<140737488353000):
  Calls Tryz.prog 184 #[.slice a len cap] w fun e w'=>e= .returned (.agg (vA 64 fun i=>bv (bkey l i)))∧Below w.heap.size w w':=by
 obtain ⟨H,hH⟩:∃H,H=w.heap.size:=⟨_,rfl⟩
 rw [←hH]
 have HL:=Lib.hid hl
 clear hl
 have hz1:=zero_run zero64b
 have q1:=all64b H
 have hB0:=Blk.new w (vA 64 fun _=> .int .u8 0) 257
 by_cases hbig:64<len
 ·have tI:decide ((64:Int)<(len:Int))=true:=by simp;omega
  have tt:decide (64<len)=true:=by simpa using hbig
  go_enter Tryz.func184,Tryz.ntmps184
  go_upto_region 1 with fail
  clear hz1
  rw [←hH] at hB0⊢
  refine wp_forget (fun W0=>Blk W0 H (vA 64 fun _=> .int .u8 0) 257∧BytesAt W0 a l∧Below H w W0) ⟨hB0,hm.alloc _,by rw [hH];(try unfold Kept);repeat (first|assumption|exact Below.refl _ _|exact below_undrew (Below.refl _ _)|exact Below.mono (by assumption) (by first|(simp;done)|(simp;omega)|omega)|refine below_setRow ?_ (by first|(simp;done)|(simp;omega)|omega) _|refine Below.setCell ?_ (by first|(simp;done)|(simp;omega)|omega) _|refine Below.alloc ?_ (by first|(simp;done)|(simp;omega)|omega) _|refine below_drewN ?_ _|refine Below.drew ?_|refine below_undrew ?_|refine below_step ?_ (by assumption))⟩ ?_
  have HH:=Lib.hid hH
  clear hB0 hm hH
  rintro w1 ⟨hB,hm,hb⟩
  go_wp2_with fail
  refine (shsum_any l a len cap _ hm HL.out hmax).mono ?_
  rintro e w2 ⟨rfl,hb2⟩
  have hB2:=hB.old hb2
  have hlt:=hB.lt
  have hb02:=hb.trans (hb2.mono (by omega))
  clear hm hB hb
  go_upto_region 3 with (refine wpList_store_blk rfl 170 agg32 (.tmp 3) _ (cells:=dgA l) rfl rfl rfl (Blk.new _ _ _) (vA_size _ _) rfl (vA_one fun _ _=>rfl) ?_)
  obtain ⟨K,hK⟩:∃K,K=w2.heap.size:=⟨_,rfl⟩
  have hK0:=Blk.new w2 (vA 32 fun _=> .int .u8 0) 170
  have hHK:H<K:=by have:=hb2.size;omega
  rw [←hK] at hK0⊢
  refine wp_forget (fun W0=>Blk W0 H (vA 64 fun _=> .int .u8 0) 257∧Blk W0 K (dgA l) 170∧Below H w W0) ⟨(hB2.alloc _).setRow_other _ _ (by omega),hK0.setRow _,below_setRow (hb02.alloc (by omega) _) (by omega) _⟩ ?_
  clear hB2 hK0 hK hb02 hb2 hlt
  rintro w3 ⟨hB,hKd,hb⟩
  have q2:=all32b K
  have hrow:=RowAt.all (dgl_at hKd)
  have hsp:splice (vA 64 fun _=>Value.int .u8 0) 0 ((dgl l).map bv).toArray=vA 64 fun i=>bv (bkey l i):=by
   rw [list_vA,vA_splice _ _ (by rw [dgl_length];omega),dgl_length]
   refine vA_eq fun i hi=> ?_
   have hbk:bkey l i=if i<32 then dgb l i else 0:=by rw [bkey,if_pos (by rw [HL.out];exact hbig)]
   rw [hbk]
   by_cases e:i<32
   ·rw [if_pos ⟨by omega,by omega⟩,if_pos e,List.getD_eq_getElem?_getD]
    simp [dgl,e]
   ·rw [if_neg (by omega),if_neg e];rfl
  have HSP:=Lib.hid hsp
  clear hsp
  go_upto_region 5 with (refine wpList_copy_row rfl (.tmp 10) (.tmp 11) 22 22 rfl Tryz.underlying22 u8Info rfl rfl hB (cs:=(dgl l).map bv) (by rw [List.length_map,dgl_length];rfl) hrow (by rw [List.length_map,vA_size,dgl_length];omega) (bv_one _) ?_)
  rw [HSP.out]
  refine wp_forget (fun W0=>Blk W0 H (vA 64 fun i=>bv (bkey l i)) 257∧Below H w W0) ⟨hB.setRow _,below_setRow hb (Nat.le_refl _) _⟩ ?_
  clear hB hb hrow hKd q2
  rintro w2 ⟨hB,hb⟩
  go_wp2_with (first|refine wpList_load_blk rfl 257 agg64b _ rfl rfl hB (vA_size _ _) ?_|refine wpList_store_blk rfl 257 agg64b (.tmp 2) _ (cells:=vA 64 fun i=>bv (bkey l i)) rfl rfl rfl hB (vA_size _ _) (vA_size _ _) (vA_one fun _ _=>rfl) ?_)
  exact post_blk rfl agg64b rfl (hB.setRow _) (vA_size _ _) rfl ⟨rfl,below_setRow hb (Nat.le_refl _) _⟩
 ·have tI:decide ((64:Int)<(len:Int))=false:=by simp;omega
  have tt:decide (64<len)=false:=by simpa using hbig
  go_enter Tryz.func184,Tryz.ntmps184
  go_upto_region 1 with fail
  clear hz1
  rw [←hH] at hB0⊢
  refine wp_forget (fun W0=>Blk W0 H (vA 64 fun _=> .int .u8 0) 257∧BytesAt W0 a l∧Below H w W0) ⟨hB0,hm.alloc _,by rw [hH];(try unfold Kept);repeat (first|assumption|exact Below.refl _ _|exact below_undrew (Below.refl _ _)|exact Below.mono (by assumption) (by first|(simp;done)|(simp;omega)|omega)|refine below_setRow ?_ (by first|(simp;done)|(simp;omega)|omega) _|refine Below.setCell ?_ (by first|(simp;done)|(simp;omega)|omega) _|refine Below.alloc ?_ (by first|(simp;done)|(simp;omega)|omega) _|refine below_drewN ?_ _|refine Below.drew ?_|refine below_undrew ?_|refine below_step ?_ (by assumption))⟩ ?_
  have HH:=Lib.hid hH
  clear hB0 hm hH
  rintro w1 ⟨hB,hm,hb⟩
  cases a with
  |none=>
   have hl0:l=[]:=by
    cases hl:l with
    |nil=>rfl
    |cons x r=>subst hl;obtain ⟨b,o,he,_⟩:=hm 0 (by simp);cases he
   subst hl0
   obtain rfl:len=0:=by have:=HL.out;simpa using this.symm
   go_wp2_with (first|refine wpList_copy_nil rfl (.tmp 10) (.tmp 11) 22 22 rfl Tryz.underlying22 u8Info rfl rfl ?_|refine wpList_load_blk rfl 257 agg64b _ rfl rfl hB (vA_size _ _) ?_|refine wpList_store_blk rfl 257 agg64b (.tmp 2) _ (cells:=vA 64 fun _=> .int .u8 0) rfl rfl rfl hB (vA_size _ _) (vA_size _ _) (vA_one fun _ _=>rfl) ?_)
   refine post_blk rfl agg64b rfl ((hB.setRow _).ofV (g:=fun i=>bv (bkey [] i)) fun i _=> ?_) (vA_size _ _) rfl ⟨rfl,below_setRow hb (Nat.le_refl _) _⟩
   simp [bkey,bv,U8]
  |some ad=>
   have hlen64:l.length≤64:=by have:=HL.out;omega
   have hcs:(l.map bv).length=Nat.min len 64:=by
    rw [List.length_map,HL.out];exact (Nat.min_eq_left (by omega)).symm
   have hrow:=RowAt.all hm
   have hsp:splice (vA 64 fun _=>Value.int .u8 0) 0 (l.map bv).toArray=vA 64 fun i=>bv (bkey l i):=by
    rw [list_vA,vA_splice _ _ (by omega)]
    refine vA_eq fun i hi=> ?_
    have hbk:bkey l i=l.getD i 0:=by rw [bkey,if_neg (by omega)]
    rw [hbk]
    by_cases e:i<l.length
    ·rw [if_pos ⟨by omega,by omega⟩];rfl
    ·rw [if_neg (by omega),List.getD_eq_getElem?_getD,List.getElem?_eq_none (by omega)];rfl
   have HSP:=Lib.hid hsp
   clear hsp hlen64
   go_upto_region 5 with (refine wpList_copy_row rfl (.tmp 10) (.tmp 11) 22 22 rfl Tryz.underlying22 u8Info rfl rfl hB (cs:=l.map bv) hcs hrow (by rw [List.length_map,vA_size,HL.out];omega) (bv_one _) ?_)
   rw [HSP.out]
   refine wp_forget (fun W0=>Blk W0 H (vA 64 fun i=>bv (bkey l i)) 257∧Below H w W0) ⟨hB.setRow _,below_setRow hb (Nat.le_refl _) _⟩ ?_
   clear hB hb hm hrow hcs
   rintro w2 ⟨hB,hb⟩
   go_wp2_with (first|refine wpList_load_blk rfl 257 agg64b _ rfl rfl hB (vA_size _ _) ?_|refine wpList_store_blk rfl 257 agg64b (.tmp 2) _ (cells:=vA 64 fun i=>bv (bkey l i)) rfl rfl rfl hB (vA_size _ _) (vA_size _ _) (vA_one fun _ _=>rfl) ?_)
   exact post_blk rfl agg64b rfl (hB.setRow _) (vA_size _ _) rfl ⟨rfl,below_setRow hb (Nat.le_refl _) _⟩
def Wi1 (w:World) (H:Nat) (f:Nat→UInt8) (x:UInt8) (g:Nat) (i:Value) (wr:World):Prop:=
 ∃t:Nat,g+t=64∧i= .int .i64 (t:Int)∧Blk wr H (vA 64 fun j=>bv (if j<t then f j^^^x else f j)) 257∧Below H w wr
attribute [local go_sem] bits_xor_u8 ofInt_U8
set_option maxHeartbeats 1000000 in
set_option maxRecDepth 100000 in
theorem mwith_any (f:Nat→UInt8) (x:UInt8) (z:Int) (hz:z=U8 x) (w:World):
  Calls Tryz.prog 186 #[.agg (vA 64 fun i=>bv (f i)),.int .u8 z] w fun e w'=>∃g,e= .returned (.slice (some ⟨g,0,none⟩) 64 64)∧w.heap.size≤g∧BytesAt w' (some ⟨g,0,none⟩) (padl f x)∧Below w.heap.size w w':=by
 subst hz
 obtain ⟨H,hH⟩:∃H,H=w.heap.size:=⟨_,rfl⟩
 rw [←hH]
 have q1:=all64b H
 have hB0:=Blk.new w (vA 64 fun i=>bv (f i)) 257
 go_enter Tryz.func186,Tryz.ntmps186
 go_upto_region 1 with fail
 rw [←hH] at hB0⊢
 refine wp_forget (fun W0=>Blk W0 H (vA 64 fun i=>bv (f i)) 257∧Below H w W0) ⟨hB0,by rw [hH];(try unfold Kept);repeat (first|assumption|exact Below.refl _ _|exact below_undrew (Below.refl _ _)|exact Below.mono (by assumption) (by first|(simp;done)|(simp;omega)|omega)|refine below_setRow ?_ (by first|(simp;done)|(simp;omega)|omega) _|refine Below.setCell ?_ (by first|(simp;done)|(simp;omega)|omega) _|refine Below.alloc ?_ (by first|(simp;done)|(simp;omega)|omega) _|refine below_drewN ?_ _|refine Below.drew ?_|refine below_undrew ?_|refine below_step ?_ (by assumption))⟩ ?_
 have HH:=Lib.hid hH
 clear hB0 hH
 rintro w1 ⟨hB,hb⟩
 go_wp2_with fail
 go_loopg [5,6] 64 (fun g _ i wr=>Wi1 w H f x g i wr)
 case atStart=>exact ⟨0,by omega,rfl,hB.ofV fun j _=>by rw [if_neg (by omega)],hb⟩
 case round=>
  clear hB hb
  obtain ⟨t,hf,rfl,hB,hb⟩:=hrel
  by_cases ht:t<64
  ·have tt:decide ((t:Int)<64)=true:=by simp;omega
   have htI:(t:Int)<64:=by omega
   have c0:wr.cell? ⟨H,t,none⟩=some (.int .u8 (U8 (f t))):=hB.atV ht (by rw [if_neg (by omega)];rfl)
   have f0:=hB.free
   have HF:=Lib.hid hf
   clear hf
   go_wp2_with fail
   clear c0 f0
   go_roundg (gk-1)
   case rel=>
    have hf:=HF.out
    refine ⟨t+1,by omega,by go_num,(hB.setV ht _).ofV fun j _=> ?_,hb.setCell (by show H≤H;omega) _⟩
    by_cases e:j=t
    ·subst e;rw [if_pos rfl,if_pos (by omega)];rfl
    ·rw [if_neg e]
     by_cases e2:j<t
     ·rw [if_pos e2,if_pos (by omega)]
     ·rw [if_neg e2,if_neg (by omega)]
   case measure=>have hf:=HF.out;omega
  ·obtain rfl:t=64:=by omega
   have tt:decide (((64:Nat):Int)<64)=false:=by simp
   clear hf
   go_wp2_with fail
   go_ret
   refine ⟨H,rfl,Nat.le_refl _,?_,hb⟩
   have hB2:=hB.ofV (g:=fun j=>bv (f j^^^x)) fun j hj=>by rw [if_pos hj]
   refine RowAt.mk fun j hj=> ?_
   rw [List.length_map,padl_length] at hj
   rw [Nat.zero_add,hB2.atV hj rfl]
   simp [padl]
end
section
open Go.RowKit
def mcs (hi ho:Nat):Array Value:= #[.pointer (some ⟨hi,0,none⟩),.pointer (some ⟨ho,0,none⟩)]
structure MacAt (w:World) (B M:Nat) (k l:List UInt8) (hi ho:Nat) (a:Option Addr) (n c:Nat) (a2:Option Addr) (n2 c2:Nat):Prop where
 mac:Blk w M (mcs hi ho) 256
 inn:HashAt w B hi (hin k l) a n c
 out:HashAt w B ho (padl (bkey k) 92) a2 n2 c2
 ne:hi≠ho
 row:rowB a c=none∨rowB a c≠rowB a2 c2
 leM:B≤M
 leI:B≤hi
 leO:B≤ho
def MacNewPost (w:World) (k:List UInt8) (e:Ending) (w':World):Prop:=
 ∃M hi ho a n c a2 n2 c2,e= .returned (.pointer (some ⟨M,0,none⟩))∧MacAt w' w.heap.size M k [] hi ho a n c a2 n2 c2∧Below w.heap.size w w'
structure MnI (w:World) (H M hi ho kb:Nat) (k l:List UInt8) (a:Option Addr) (n c:Nat) (wr:World):Prop where
 mac:Blk wr M (mcs hi ho) 256
 inn:HashAt wr H hi l a n c
 out:HashAt wr H ho [] none 0 0
 key:Blk wr kb (vA 64 fun i=>bv (bkey k i)) 257
 below:Below H w wr
theorem HashAt.fr {w w':World} {B g g2:Nat} {l:List UInt8} {a:Option Addr} {n c:Nat} {row:Option Nat} (h:HashAt w B g l a n c) (hfr:HsFr w w' g2 row) (hne:g≠g2) {cs:Array Value} (hG:Blk w g2 cs 270)
  (hr:(∀b,row=some b→rowB a c≠some b∧g≠b)∨row=none):HashAt w' B g l a n c:=by
 refine ⟨hfr.blk h.hash hne ?_,h.row.keep fun r hrr=> ?_,h.lt⟩
 ·intro e
  rcases hr with hr|hr
  ·exact (hr g e).2 rfl
  ·rw [hr] at e;cases e
 ·obtain ⟨_,hlt,cur,hcur⟩:=h.row.lt hrr
  refine hfr.block r hlt (Blk.ne hcur hG (by decide)) fun e=> ?_
  rcases hr with hr|hr
  ·exact (hr r e).1 hrr
  ·rw [hr] at e;cases e
theorem HsFr.but {w w':World} {g:Nat} (h:HsFr w w' g none):But g w w':=⟨h.size,fun b hb hne=>h.block b hb hne (by simp)⟩
set_option maxHeartbeats 1000000 in
set_option maxRecDepth 100000 in
theorem mnew_any (k:List UInt8) (a:Option Addr) (len cap:Nat) (w:World) (hm:BytesAt w a k) (hl:k.length=len) (hmax:len<140737488353000):
  Calls Tryz.prog 164 #[.slice a len cap] w (MacNewPost w k):=by
 obtain ⟨H,hH⟩:∃H,H=w.heap.size:=⟨_,rfl⟩
 have HH:=Lib.hid hH
 have HL:=Lib.hid hl
 clear hl hH
 go_enter Tryz.func164,Tryz.ntmps164
 go_wp2_with fail
 refine (shnew_any _).mono ?_
 rintro e w1 ⟨hi,rfl,hg1,hB1,hb1⟩
 go_wp2_with fail
 refine (shnew_any _).mono ?_
 rintro e w2 ⟨ho,rfl,hg2,hB2,hb2⟩
 go_upto_region 2 with fail
 have hM0:=Blk.new w2 (mcs hi ho) 256
 obtain ⟨M,hM⟩:∃M,M=w2.heap.size:=⟨_,rfl⟩
 rw [←hM] at hM0⊢
 have hs1:=hb1.size
 have hs2:=hb2.size
 have hi1:=hB1.lt
 have ho1:=hB2.lt
 refine wp_forget (fun W0=>Blk W0 M (mcs hi ho) 256∧HashAt W0 H hi [] none 0 0∧HashAt W0 H ho [] none 0 0∧BytesAt W0 a k∧Below H w W0) ⟨hM0,HashAt.nil ((hB1.old hb2).alloc _) H,HashAt.nil (hB2.alloc _) H,((hm.below hb1).below hb2).alloc _,by rw [HH.out];exact (below_step hb1 hb2).alloc (by omega) _⟩ ?_
 have hHi:H≤hi:=by rw [HH.out];exact hg1
 have hio:hi<ho:=by omega
 have hoM:ho<M:=by omega
 clear hM0 hM hs1 hs2 hi1 ho1 hB1 hB2 hb1 hb2 hg1 hg2 hm
 rintro w3 ⟨hM,hI,hO,hm,hb⟩
 go_wp2_with fail
 refine (mblock_any k a len cap _ hm HL.out hmax).mono ?_
 rintro e w4 ⟨rfl,hb4⟩
 have hMl:=hM.lt
 have hb04:=hb.trans (hb4.mono (by omega))
 have hM4:=hM.old hb4
 have hI4:=hI.old hb4
 have hO4:=hO.old hb4
 clear hM hI hO hm hb
 go_upto_region 3 with (refine wpList_store_blk rfl 257 agg64b (.tmp 4) _ (cells:=vA 64 fun i=>bv (bkey k i)) rfl rfl rfl (Blk.new _ _ _) (vA_size _ _) rfl (vA_one fun _ _=>rfl) ?_)
 obtain ⟨kb,hkb⟩:∃K,K=w4.heap.size:=⟨_,rfl⟩
 have hMk:M<kb:=by have:=hM4.lt;omega
 have hK0:=Blk.new w4 (vA 64 fun _=> .int .u8 0) 257
 rw [←hkb] at hK0⊢
 refine wp_forget (fun W0=>MnI w H M hi ho kb k [] none 0 0 W0) ⟨(hM4.alloc _).setRow_other _ _ (by omega),(hI4.alloc _).setRow hK0 (by decide) (by decide) _,(hO4.alloc _).setRow hK0 (by decide) (by decide) _,hK0.setRow _,below_setRow (hb04.alloc (by omega) _) (by omega) _⟩ ?_
 clear hMl hb04 hM4 hI4 hO4 hK0 hkb hb4
 rintro w5 hI
 have C0:∀W,But hi w5.drew W→W.cell? ⟨M,0,none⟩=some (.pointer (some ⟨hi,0,none⟩)):=fun W hW=>(hI.mac.drew.but hW (by omega)).cell rfl
 refine wp_region_treeB hi (.step 0 (.step 1 (.step 2 (.step 3 (.step 4 (.step 5 (.step 6 (.step 7 .done)))))))) (by kernel_rfl) (by kernel_rfl) (fun c a d v w h=>by cases d<;>exact h) ?_
 repeat (first|(refine tree_skip rfl (by rfl) ?_;simp only [Act.put,List.setIfInBounds_toArray,List.set])|(refine tree_quiet (v:= ?_) rfl rfl (by rfl) ?_ ?_;rotate_left;(intro W hW;go_simp);(try with_reducible rfl);simp only [Act.put,List.setIfInBounds_toArray,List.set]))
 refine tree_quiet (v:= .agg (vA 64 fun i=>bv (bkey k i))) rfl rfl (by rfl) (fun W hW=>exec_load_as 257 agg64b _ rfl rfl rfl (hI.key.drew.but hW (by omega)).cells (vL_length _ _)) ?_
 simp only [Act.put,List.setIfInBounds_toArray,List.set]
 refine tree_loud rfl rfl (by rfl) (fun K hK=> ?_);go_wp2_with fail
 refine (mwith_any (bkey k) 54 54 rfl _).mono ?_
 rintro e w6 ⟨g6,rfl,hg6,hr6,hb6⟩
 go_wp2_with fail
 refine hK _ _ (But.of hb6) ?_
 clear hK K
 refine tree_loud rfl rfl (by rfl) (fun K hK=> ?_);go_wp2_with fail
 have hb56:=((Below.refl w5.heap.size w5).drew).trans hb6
 have hI6:=hI.inn.old hb56
 refine (write_any H hi [] (padl (bkey k) 54) none 0 0 _ 64 64 _ hI6 hr6 (padl_length _ _) (by simp) (by have:=hI6.hash.lt;omega)).mono ?_
 rintro e w7 ⟨a7,n7,c7,rfl,hH7,hfr7,hr7⟩
 go_wp2_with fail
 refine hK _ _ (HsFr.but hfr7) ?_
 clear hK K
 refine tree_done ?_
 have hs6:w5.heap.size≤w6.heap.size:=hb56.size
 have hkl:=hI.key.lt
 refine g_forget (fun W0=>MnI w H M hi ho kb k (padl (bkey k) 54) a7 n7 c7 W0∧(rowB a7 c7=none∨∃b,rowB a7 c7=some b∧b<W0.heap.size)) ⟨⟨hfr7.blk (hI.mac.old hb56) (by omega) (by simp [rowB]),hH7,HashAt.nil (hfr7.blk (hI.out.hash.old hb56) (by omega) (by simp [rowB])) H,hfr7.blk (hI.key.old hb56) (by omega) (by simp [rowB]),(hI.below.trans (hb56.mono (by omega))).trans (hfr7.below hHi (by simp [rowB]) (by omega))⟩,?_⟩ ?_
 ·rcases hr7 with h|h|⟨b,h,_⟩
  ·exact .inl h
  ·exact .inl h
  ·exact .inr ⟨b,h,(hH7.row.lt h).2.1⟩
 clear hI hI6 hb6 hb56 hs6 hkl hfr7 hH7 hr7 hr6 C0
 rintro w8 ⟨hI,hrow⟩
 have HR:=Lib.hid hrow
 clear hrow
 have C1:∀W,But ho w8.drew W→W.cell? ⟨M,1,none⟩=some (.pointer (some ⟨ho,0,none⟩)):=fun W hW=>(hI.mac.drew.but hW (by omega)).cell rfl
 go_upto_region 4 with fail
 refine wp_region_treeB ho (.step 0 (.step 1 (.step 2 (.step 3 (.step 4 (.step 5 (.step 6 (.step 7 .done)))))))) (by kernel_rfl) (by kernel_rfl) (fun c a d v w h=>by cases d<;>exact h) ?_
 repeat (first|(refine tree_skip rfl (by rfl) ?_;simp only [Act.put,List.setIfInBounds_toArray,List.set])|(refine tree_quiet (v:= ?_) rfl rfl (by rfl) ?_ ?_;rotate_left;(intro W hW;go_simp);(try with_reducible rfl);simp only [Act.put,List.setIfInBounds_toArray,List.set]))
 refine tree_quiet (v:= .agg (vA 64 fun i=>bv (bkey k i))) rfl rfl (by rfl) (fun W hW=>exec_load_as 257 agg64b _ rfl rfl rfl (hI.key.drew.but hW (by omega)).cells (vL_length _ _)) ?_
 simp only [Act.put,List.setIfInBounds_toArray,List.set]
 refine tree_loud rfl rfl (by rfl) (fun K hK=> ?_);go_wp2_with fail
 refine (mwith_any (bkey k) 92 92 rfl _).mono ?_
 rintro e w6 ⟨g6,rfl,hg6,hr6,hb6⟩
 go_wp2_with fail
 refine hK _ _ (But.of hb6) ?_
 clear hK K
 refine tree_loud rfl rfl (by rfl) (fun K hK=> ?_);go_wp2_with fail
 have hb56:=((Below.refl w8.heap.size w8).drew).trans hb6
 have hI6:=hI.out.old hb56
 have hJ6:=hI.inn.old hb56
 refine (write_any H ho [] (padl (bkey k) 92) none 0 0 _ 64 64 _ hI6 hr6 (padl_length _ _) (by simp) (by have:=hI6.hash.lt;omega)).mono ?_
 rintro e w9 ⟨a9,n9,c9,rfl,hH9,hfr9,hr9⟩
 go_wp2_with fail
 refine hK _ _ (HsFr.but hfr9) ?_
 clear hK K
 refine tree_done ?_
 have hs6:w8.heap.size≤w6.heap.size:=hb56.size
 have hMl:=hI.mac.lt
 have hJ9:=hJ6.fr hfr9 (by omega) hI6.hash (.inr rfl)
 have hM9:=hfr9.blk (hI.mac.old hb56) (by omega) (by simp [rowB])
 have hb9:=(hI.below.trans (hb56.mono (by omega))).trans (hfr9.below (show H≤ho by omega) (by simp [rowB]) (by omega))
 have hrr:rowB a7 c7=none∨rowB a7 c7≠rowB a9 c9:=by
  rcases HR.out with h|⟨b,h,hlt⟩
  ·exact .inl h
  ·refine .inr fun e=> ?_
   rw [h] at e
   rcases hr9 with h2|h2|⟨b2,h2,hge⟩
   ·rw [h2] at e;cases e
   ·rw [h2] at e;simp [rowB] at e
   ·rw [h2] at e;cases e;omega
 have hA:MacAt w9 H M k [] hi ho a7 n7 c7 a9 n9 c9:=⟨hM9,by rw [hin,List.append_nil];exact hJ9,hH9,by omega,hrr,by omega,hHi,by omega⟩
 clear hI hI6 hJ6 hb6 hb56 hs6 hMl hJ9 hM9 hfr9 hH9 hr9 hrr hr6 C1
 go_wp2_with fail
 go_ret
 rw [HH.out] at hA hb9
 exact ⟨M,hi,ho,a7,n7,c7,a9,n9,c9,rfl,hA,hb9⟩
def MwPost (w:World) (B M:Nat) (k l:List UInt8) (hi ho:Nat) (row:Option Nat) (a2:Option Addr) (n2 c2:Nat) (e:Ending) (w':World):Prop:=
 ∃a n c,e= .returned (.int .i64 0)∧MacAt w' B M k l hi ho a n c a2 n2 c2∧HsFr w w' hi row∧(rowB a c=none∨rowB a c=row∨∃b,rowB a c=some b∧w.heap.size≤b)
theorem MacAt.old {w w':World} {B M:Nat} {k l:List UInt8} {hi ho:Nat} {a:Option Addr} {n c:Nat} {a2:Option Addr} {n2 c2:Nat} (h:MacAt w B M k l hi ho a n c a2 n2 c2) (hb:Below w.heap.size w w'):MacAt w' B M k l hi ho a n c a2 n2 c2:=
 ⟨h.mac.old hb,h.inn.old hb,h.out.old hb,h.ne,h.row,h.leM,h.leI,h.leO⟩
set_option maxHeartbeats 1000000 in
set_option maxRecDepth 100000 in
theorem mwrite_any (B M:Nat) (k l b:List UInt8) (hi ho:Nat) (a:Option Addr) (n c:Nat) (a2:Option Addr) (n2 c2:Nat) (ba:Option Addr) (len cap:Nat) (w:World) (hM:MacAt w B M k l hi ho a n c a2 n2 c2) (hb:BytesAt w ba b) (hlen:b.length=len) (hl:l.length+len<140737488353000):
  Calls Tryz.prog 165 #[.pointer (some ⟨M,0,none⟩),.slice ba len cap] w (MwPost w B M k (l++b) hi ho (rowB a c) a2 n2 c2):=by
 have c0:w.cell? ⟨M,0,none⟩=some (.pointer (some ⟨hi,0,none⟩)):=hM.mac.cell rfl
 have HL:=Lib.hid hlen
 clear hlen
 go_enter Tryz.func165,Tryz.ntmps165
 go_wp2_with fail
 clear c0
 refine (write_any B hi (hin k l) b a n c _ len cap w hM.inn hb HL.out (by rw [hin,List.length_append,padl_length];omega) (by have:=hM.inn.hash.lt;have:=hM.leI;omega)).mono ?_
 rintro e w1 ⟨a1,n1,c1,rfl,hH1,hfr1,hr1⟩
 go_wp2_with fail
 go_ret
 have hrow:rowB a c≠some M:=fun e=>by
  obtain ⟨_,_,cur,hcur⟩:=hM.inn.row.lt e
  exact Blk.ne hcur hM.mac (by decide) rfl
 have hne:M≠hi:=Blk.ne hM.mac hM.inn.hash (by decide)
 refine ⟨a1,n1,c1,rfl,⟨hfr1.blk hM.mac hne hrow,by rw [hin,←List.append_assoc];exact hH1,hM.out.fr hfr1 (Ne.symm hM.ne) hM.inn.hash ?_,hM.ne,?_,hM.leM,hM.leI,hM.leO⟩,hfr1,hr1⟩
 ·rcases hM.row with h|h
  ·exact .inr h
  ·refine .inl fun b hbr=>⟨fun e=>h (hbr.trans e.symm),fun e=> ?_⟩
   obtain ⟨_,_,cur,hcur⟩:=hM.inn.row.lt hbr
   exact Blk.ne hcur hM.out.hash (by decide) e.symm
 ·rcases hr1 with h|h|⟨b',h,hge⟩
  ·exact .inl h
  ·rw [h];exact hM.row
  ·refine .inr fun e=> ?_
   rw [h] at e
   have:=(hM.out.row.lt e.symm).2.1
   omega
set_option maxHeartbeats 1000000 in
set_option maxRecDepth 100000 in
theorem msum_any (B M:Nat) (k l:List UInt8) (hi ho:Nat) (a:Option Addr) (n c:Nat) (a2:Option Addr) (n2 c2:Nat) (w:World) (hM:MacAt w B M k l hi ho a n c a2 n2 c2) (hl:l.length<140737488352000):
  Calls Tryz.prog 167 #[.pointer (some ⟨M,0,none⟩)] w fun e w'=>e= .returned (.agg (mcA k l))∧Below w.heap.size w w':=by
 obtain ⟨H,hH⟩:∃H,H=w.heap.size:=⟨_,rfl⟩
 have hR0:=Blk.new w (vA 32 fun _=> .int .u8 0) 170
 rw [←hH] at hR0⊢
 go_enter Tryz.func167,Tryz.ntmps167
 go_upto_region 1 with fail
 rw [←hH]
 refine wp_forget (fun W0=>Blk W0 H (vA 32 fun _=> .int .u8 0) 170∧MacAt W0 B M k l hi ho a n c a2 n2 c2∧Below H w W0) ⟨hR0,hM.old ((Below.refl _ _).alloc (Nat.le_refl _) _),by rw [hH];(try unfold Kept);repeat (first|assumption|exact Below.refl _ _|exact below_undrew (Below.refl _ _)|exact Below.mono (by assumption) (by first|(simp;done)|(simp;omega)|omega)|refine below_setRow ?_ (by first|(simp;done)|(simp;omega)|omega) _|refine Below.setCell ?_ (by first|(simp;done)|(simp;omega)|omega) _|refine Below.alloc ?_ (by first|(simp;done)|(simp;omega)|omega) _|refine below_drewN ?_ _|refine Below.drew ?_|refine below_undrew ?_|refine below_step ?_ (by assumption))⟩ ?_
 have HH:=Lib.hid hH
 clear hR0 hM hH
 rintro w0 ⟨hR,hM,hb⟩
 have c1:w0.cell? ⟨M,1,none⟩=some (.pointer (some ⟨ho,0,none⟩)):=hM.mac.cell rfl
 have hRl:=hR.lt
 go_wp2_with fail
 refine (copy_any B ho _ a2 n2 c2 _ hM.out).mono ?_
 rintro e w1 ⟨g,a3,c3,rfl,hg,hH1,hb1⟩
 have hM1:=hM.old hb1
 have hR1:=hR.old hb1
 have hb01:=hb.trans (hb1.mono (by omega))
 have c0:w1.cell? ⟨M,0,none⟩=some (.pointer (some ⟨hi,0,none⟩)):=hM1.mac.cell rfl
 have hs1:=hb1.size
 have hH1:HashAt w1 (H+1) g _ _ _ _:=⟨hH1.hash,hH1.row.lower (by omega),hH1.lt⟩
 clear c1 hM hb1 hR hb
 go_wp2_with fail
 refine (hsum_any B hi (hin k l) a n c _ hM1.inn (by rw [hin,List.length_append,padl_length];omega)).mono ?_
 rintro e w2 ⟨rfl,hb2⟩
 have hR2:=hR1.old hb2
 have hH2:=hH1.old hb2
 have hb02:=hb01.trans (hb2.mono (by omega))
 have hs2:=hb2.size
 have hgl:=hH1.hash.lt
 clear c0 hM1 hR1 hH1 hb01 hb2
 go_upto_region 5 with (refine wpList_store_blk rfl 170 agg32 (.tmp 4) _ (cells:=dgA (hin k l)) rfl rfl rfl (Blk.new _ _ _) (vA_size _ _) rfl (vA_one fun _ _=>rfl) ?_)
 obtain ⟨K,hK⟩:∃K,K=w2.heap.size:=⟨_,rfl⟩
 have hK0:=Blk.new w2 (vA 32 fun _=> .int .u8 0) 170
 rw [←hK] at hK0⊢
 refine wp_forget (fun W0=>Blk W0 H (vA 32 fun _=> .int .u8 0) 170∧HashAt W0 (H+1) g (padl (bkey k) 92) a3 n2 c3∧Blk W0 K (dgA (hin k l)) 170∧Below H w W0) ⟨(hR2.alloc _).setRow_other _ _ (by omega),(hH2.alloc _).setRow hK0 (by decide) (by decide) _,hK0.setRow _,below_setRow (hb02.alloc (by omega) _) (by omega) _⟩ ?_
 have hgH:H<g:=by omega
 clear hR2 hH2 hb02 hK0 hK hs1 hs2 hgl hRl hg
 rintro w3 ⟨hR,hH3,hK,hb⟩
 have q2:=all32b K
 go_wp2_with fail
 refine (write_any (H+1) g (padl (bkey k) 92) (dgl (hin k l)) a3 n2 c3 _ 32 32 _ hH3 (dgl_at hK) (dgl_length _) (by rw [padl_length];omega) (by have:=hH3.hash.lt;omega)).mono ?_
 rintro e w4 ⟨a4,n4,c4,rfl,hH4,hfr4,hr4⟩
 have hrow:rowB a3 c3≠some H:=fun e=>by have:=(hH3.row.lt e).1;omega
 have hR4:=hfr4.blk hR (by omega) hrow
 have hb4:=hb.trans (hfr4.below (by omega) (fun b hb=>by have:=(hH3.row.lt hb).1;omega) (by have:=hR.lt;omega))
 clear hR hH3 hK hb q2 hfr4 hr4 hrow
 go_wp2_with fail
 refine (hsum_any (H+1) g (hout k l) a4 n4 c4 _ hH4 (by rw [hout,List.length_append,padl_length,dgl_length];omega)).mono ?_
 rintro e w5 ⟨rfl,hb5⟩
 have hR5:=hR4.old hb5
 have hb05:=hb4.trans (hb5.mono (by have:=hR4.lt;omega))
 go_wp2_with (refine wpList_store_blk rfl 170 agg32 (.tmp 2) _ (cells:=dgA (hout k l)) rfl rfl rfl hR5 (vA_size _ _) (vA_size _ _) (vA_one fun _ _=>rfl) ?_)
 exact post_blk rfl agg32 rfl (hR5.setRow _) (vA_size _ _) rfl ⟨rfl,below_setRow hb05 (Nat.le_refl _) _⟩
set_option maxHeartbeats 1000000 in
set_option maxRecDepth 100000 in
theorem mac_any (k b:List UInt8) (ka:Option Addr) (kn kc:Nat) (ba:Option Addr) (bn bc:Nat) (w:World) (hk:BytesAt w ka k) (hkl:k.length=kn) (hkm:kn<140737488352000) (hb:BytesAt w ba b) (hbl:b.length=bn) (hbm:bn<140737488352000):
  Calls Tryz.prog 143 #[.slice ka kn kc,.slice ba bn bc] w fun e w'=>e= .returned (.agg (mcA k b))∧Below w.heap.size w w':=by
 obtain ⟨H,hH⟩:∃H,H=w.heap.size:=⟨_,rfl⟩
 have hR0:=Blk.new w (vA 32 fun _=> .int .u8 0) 170
 rw [←hH] at hR0⊢
 have HK:=Lib.hid hkl
 have HB:=Lib.hid hbl
 clear hkl hbl
 go_enter Tryz.func143,Tryz.ntmps143
 go_upto_region 1 with fail
 rw [←hH]
 refine wp_forget (fun W0=>Blk W0 H (vA 32 fun _=> .int .u8 0) 170∧BytesAt W0 ka k∧BytesAt W0 ba b∧Below H w W0) ⟨hR0,hk.alloc _,hb.alloc _,by rw [hH];(try unfold Kept);repeat (first|assumption|exact Below.refl _ _|exact below_undrew (Below.refl _ _)|exact Below.mono (by assumption) (by first|(simp;done)|(simp;omega)|omega)|refine below_setRow ?_ (by first|(simp;done)|(simp;omega)|omega) _|refine Below.setCell ?_ (by first|(simp;done)|(simp;omega)|omega) _|refine Below.alloc ?_ (by first|(simp;done)|(simp;omega)|omega) _|refine below_drewN ?_ _|refine Below.drew ?_|refine below_undrew ?_|refine below_step ?_ (by assumption))⟩ ?_
 have HH:=Lib.hid hH
 clear hR0 hk hb hH
 rintro w0 ⟨hR,hk,hbb,hb⟩
 have hRl:=hR.lt
 go_wp2_with fail
 refine (mnew_any k ka kn kc _ hk HK.out (by omega)).mono ?_
 rintro e w1 ⟨M,hi,ho,a,n,c,a2,n2,c2,rfl,hM1,hb1⟩
 have hs1:=hb1.size
 have hR1:=hR.old hb1
 have hb01:=hb.trans (hb1.mono (by omega))
 have hbb1:=hbb.below hb1
 clear hk hbb hb hR
 go_wp2_with fail
 refine (mwrite_any w0.heap.size M k [] b hi ho a n c a2 n2 c2 ba bn bc _ hM1 hbb1 HB.out (by simp;omega)).mono ?_
 rintro e w2 ⟨a3,n3,c3,rfl,hM2,hfr2,hr2⟩
 have hrow:rowB a c≠some H:=fun e=>by have:=(hM1.inn.row.lt e).1;omega
 have hhi:=hM1.leI
 have hR2:=hfr2.blk hR1 (by omega) hrow
 have hb02:=hb01.trans (hfr2.below (by omega) (fun b hb=>by have:=(hM1.inn.row.lt hb).1;omega) (by omega))
 rw [List.nil_append] at hM2
 clear hR1 hb01 hbb1 hfr2 hr2 hrow hM1 hb1
 go_wp2_with fail
 refine (msum_any w0.heap.size M k b hi ho a3 n3 c3 a2 n2 c2 _ hM2 (by rw [HB.out];exact hbm)).mono ?_
 rintro e w3 ⟨rfl,hb3⟩
 have hR3:=hR2.old hb3
 have hb03:=hb02.trans (hb3.mono (by have:=hR2.lt;omega))
 go_wp2_with (refine wpList_store_blk rfl 170 agg32 (.tmp 4) _ (cells:=mcA k b) rfl rfl rfl hR3 (vA_size _ _) (vA_size _ _) (vA_one fun _ _=>rfl) ?_)
 exact post_blk rfl agg32 rfl (hR3.setRow _) (vA_size _ _) rfl ⟨rfl,below_setRow hb03 (Nat.le_refl _) _⟩
end
section
open Go.RowKit
open Go.RowKit
def tsB (third:Bool) (y n:Nat):Bool:=if third then decide (y<68719476736)&&pwB true y n else pwB false y n
def hfx (third:Bool) (n:Nat):Nat→Nat
 |0=>0
 |k+1=>if tsB third (hfx third n k+2^(39-k)) n then hfx third n k+2^(39-k) else hfx third n k
open Go.RowKit
open Go.RowKit
open Go.RowKit
theorem conv_U8 (c:UInt8):U8 c%(4294967296:Int)=U32 (c.toBitVec.setWidth 32):=by
 rw [←ofInt32_U8,show U8 c%(4294967296:Int)=U8 c from by have:=U8_lo c;have:=U8_hi c;omega]
 have h:(U8 c)=((c.toNat:Nat):Int):=rfl
 rw [h,BitVec.ofInt_natCast,U32,BitVec.toNat_ofNat,Nat.mod_eq_of_lt]
 have:=U8_hi c;rw [h] at this;omega
theorem shl16_U32 (a:BitVec 32):U32 a*(65536:Int)%(4294967296:Int)=U32 (a<<<16):=U32_shl a 16
theorem shl24_U32 (a:BitVec 32):U32 a*(16777216:Int)%(4294967296:Int)=U32 (a<<<24):=U32_shl a 24
attribute [local go_sem] shl8_U32 shl16_U32 shl24_U32 conv_U8 ofInt32_U8 bits_xor_u32 bits_and_u32 bits_or_u32 ofInt_U32 addm_U32 add_U32 div8_U32 div1024_U32 not_u32
end
section
open Go.RowKit
theorem be64_div (n i:Nat) (p:Int) (hp:p=((2^(56-8*i):Nat):Int)):(n:Int)/p%256=U8 (be64b n i):=by
 have e:U8 (be64b n i)=(((n/2^(56-8*i))%2^8:Nat):Int):=by
  show (((BitVec.ofNat 8 (n/2^(56-8*i))).toNat:Nat):Int)=_
  rw [BitVec.toNat_ofNat]
 rw [e,hp]
 generalize 2^(56-8*i)=P
 rw [Int.natCast_emod,Int.natCast_ediv]
 rfl
end
section
open Go.RowKit
theorem BytesAt.cellAt {w:World} {a:Option Addr} {l:List UInt8} (h:BytesAt w a l) (i:Nat) (hi:i<l.length):∃b o,a=some ⟨b,o,none⟩∧w.cell? ⟨b,o+i,none⟩=some (.int .u8 (U8 (l.getD i 0))):=by
 obtain ⟨b,o,e,hc⟩:=h.at (by omega)
 exact ⟨b,o,e,by rw [hc i hi];simp [hi]⟩
attribute [local go_sem] bits_xor_u8 ofInt_U8
end
end Go.Proofs.YtioigihakjlopaaGreat
