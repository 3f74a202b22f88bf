/- Texts put together and cut to what is used: SealPlain, Seal, SealNew, SealBox, SealMark, SealMake. -/
import Derived.Test.YtioigihakjlopaaGreatVK23
import Derived.Test.YtioigihakjlopaaGreatVK26
namespace Go.Proofs.YtioigihakjlopaaGreat
set_option linter.unusedVariables false
set_option linter.unusedSimpArgs false
section
open Go.RowKit
def nCipher:List UInt8:=[99,105,112,104,101,114]
def nTag:List UInt8:=[116,97,103]
def ckey (m:List UInt8) (g i:Nat):UInt8:=dgb (hout m (keyb nCipher 6 g)) i
def tkey (m:List UInt8) (g i:Nat):UInt8:=dgb (hout m (keyb nTag 3 g)) i
def ckB (m:List UInt8) (g:Nat):Nat→BitVec 8:=fun i=>(ckey m g i).toBitVec
def tkL (m:List UInt8) (g:Nat):List UInt8:=(List.range 32).map (tkey m g)
def nonL (g n:Nat):List UInt8:=(be64 g).drop 4++be64 n
def nonB (g n:Nat):Nat→BitVec 8:=fun i=>((nonL g n).getD i 0).toBitVec
def markL (m:List UInt8) (g n:Nat) (c:List UInt8):List UInt8:=hout (tkL m g) (be64 g++be64 n++c)
def sealL (m:List UInt8) (g n:Nat) (b:List UInt8):List UInt8:=stm (ckB m g) (nonB g n) b++dgl (markL m g n (stm (ckB m g) (nonB g n) b))
def sizeI (x:Int):Int:=if x<0∨65504<x then 0 else x+32
theorem tkL_length (m:List UInt8) (g:Nat):(tkL m g).length=32:=by simp [tkL]
theorem nonL_length (g n:Nat):(nonL g n).length=12:=by simp [nonL,be64_length]
theorem size_any (x:Int) (h1: -9223372036854775808≤x) (h2:x≤9223372036854775807) (w:World):Calls Tryz.prog 111 #[.int .i64 x] w fun e w'=>e= .returned (.int .i64 (sizeI x))∧w=w':=by
 obtain ⟨S,hS⟩:∃S,S=sizeI x:=⟨_,rfl⟩
 rw [←hS]
 have HS:=Lib.hid hS
 clear hS
 by_cases a:x<0
 ·have t1:decide (x<0)=true:=decide_eq_true a
  have e:S=0:=by rw [HS.out,sizeI,if_pos (.inl a)]
  have HE:=Lib.hid e
  clear e
  go_enter Tryz.func111,Tryz.ntmps111
  go_wp2_with fail
  go_ret
  exact ⟨by rw [HE.out];rfl,rfl⟩
 ·have t1:decide (x<0)=false:=decide_eq_false a
  by_cases b:65504<x
  ·have t2:decide (65504<x)=true:=decide_eq_true b
   have e:S=0:=by rw [HS.out,sizeI,if_pos (.inr b)]
   have HE:=Lib.hid e
   clear e
   go_enter Tryz.func111,Tryz.ntmps111
   go_wp2_with fail
   go_ret
   exact ⟨by rw [HE.out];rfl,rfl⟩
  ·have t2:decide (65504<x)=false:=decide_eq_false b
   have e:S=x+32:=by rw [HS.out,sizeI,if_neg (by omega)]
   have HE:=Lib.hid e
   clear e
   have x0:0≤x:=by omega
   have x1:x≤65504:=by omega
   go_enter Tryz.func111,Tryz.ntmps111
   go_wp2_with fail
   go_ret
   exact ⟨by rw [HE.out];rfl,rfl⟩
theorem grown_more {a b c:World} {x y:Option Nat} (h:a.grownBy b x) (k:b.grownBy c y) (hy:y=x∨y=none∨∃g,y=some g∧a.heap.size≤g):a.grownBy c x:=
 ⟨k.os.trans h.os,k.tape.trans h.tape,k.output.trans h.output,Nat.le_trans h.size k.size,fun i hi hn=>(k.block i (Nat.lt_of_lt_of_le hi h.size) (by
  rcases hy with rfl|rfl|⟨g,rfl,hg⟩
  ·exact hn
  ·simp
  ·simp;omega)).trans (h.block i hi hn)⟩
theorem be64_snoc8 (n t:Nat) (h:t<8):(be64 n).take (t+1)=(be64 n).take t++ [be64b n t]:=by
 rw [List.take_succ_eq_append_getElem (by rw [be64_length];exact h)]
 simp [be64]
theorem qGrowAlloc {a b:World} {x:Option Nat} (h:a.grownBy b x) (o:Obj):a.grownBy (b.alloc o) x:=only_alloc h o
def Se1 (w:World) (B n0 g:Nat) (l:List UInt8) (a0:Option Addr) (c0:Nat) (f:Nat) (v i:Value) (wr:World):Prop:=
 ∃(t:Nat) (a:Option Addr) (c:Nat),f+t=8∧i= .int .i64 (56-8*(t:Int))∧v= .slice a (n0+t) c∧Mid wr B 5 a (n0+t) c ((l++(be64 g).take t).map bv)∧w.grownBy wr (rowB a0 c0)∧(rowB a c=rowB a0 c0∨∃b,rowB a c=some b∧w.heap.size≤b)
def SeP (w:World) (B n0 g:Nat) (l:List UInt8) (a0:Option Addr) (c0:Nat) (e:Ending) (w':World):Prop:=
 ∃(a:Option Addr) (c:Nat),e= .returned (.slice a (n0+8) c)∧Mid w' B 5 a (n0+8) c ((l++be64 g).map bv)∧w.grownBy w' (rowB a0 c0)∧(rowB a c=rowB a0 c0∨∃b,rowB a c=some b∧w.heap.size≤b)
set_option maxHeartbeats 2000000 in
set_option maxRecDepth 40000 in
theorem seight_any (B n0 g:Nat) (l:List UInt8) (a0:Option Addr) (c0:Nat) (w:World) (hg:g<18446744073709551616) (hm:Mid w B 5 a0 n0 c0 (l.map bv)) (hB:B≤w.heap.size) (hn:n0≤100000):
  Calls Tryz.prog 142 #[.slice a0 n0 c0,.int .u64 (g:Int)] w (SeP w B n0 g l a0 c0):=by
 have hgI:(g:Int)≤18446744073709551615:=by omega
 have hg0:(0:Int)≤(g:Int):=by omega
 have hst:Se1 w B n0 g l a0 c0 8 (.slice a0 n0 c0) (.int .i64 56) w:=⟨0,a0,c0,by omega,rfl,rfl,by simpa using hm,World.grownBy.refl _ _,.inl rfl⟩
 clear hm
 go_enter Tryz.func142,Tryz.ntmps142
 go_wp2_with fail
 go_loopg [0,5] 8 (Se1 w B n0 g l a0 c0)
 case atStart=>exact hst
 case round=>
  clear hst
  obtain ⟨t,a,c,hf,rfl,rfl,ho,hgr,hrw⟩:=hrel
  have HF:=Lib.hid hf
  have HRW:=Lib.hid hrw
  have hs:=hgr.size
  clear hf hrw
  by_cases ht:t<8
  ·obtain ⟨t',ht'⟩:∃t',t'=t+1:=⟨_,rfl⟩
   have HQ:=Lib.hid (ht'▸be64_snoc8 g t ht:(be64 g).take t'=(be64 g).take t++ [be64b g t])
   have HT2:=Lib.hid ht'
   have HE:=Lib.hid fun p=>be64_div g t p
   clear ht'
   have h8:t=0∨t=1∨t=2∨t=3∨t=4∨t=5∨t=6∨t=7:=by omega
   rcases h8 with rfl|rfl|rfl|rfl|rfl|rfl|rfl|rfl
   all_goals
    go_wp2_with (at_builtin;refine wpList_append_mid rfl (.tmp 10) (.tmp 16) 22 rfl bytesT3 rfl (ho.alloc _) rfl (RowAt.new' _ _ _ _ (by simp)) (by rfl) (by exact all_one _ rfl) (by unfold maxLen;omega) (by omega) (by simp;omega) ?_)
    intro a5 c5 w5 hm5 hg5 hr5
    have hgr5:=grown_more (qGrowAlloc hgr _) hg5 (by
     rcases HRW.out with h|⟨b,h,h2⟩
     ·exact .inl h
     ·exact .inr (.inr ⟨b,h,h2⟩))
    have hr6:rowB a5 c5=rowB a0 c0∨∃b,rowB a5 c5=some b∧w.heap.size≤b:=by
     rcases hr5 with h|⟨b,h,h2⟩
     ·rw [h];exact HRW.out
     ·exact .inr ⟨b,h,by omega⟩
    have HR6:=Lib.hid hr6
    clear hg5 hr5 hr6
    go_wp2_with fail
    go_roundg (gk-1)
    case rel=>
     refine ⟨t',a5,c5,by have:=HF.out;have:=HT2.out;omega,by rw [HT2.out];rfl,by rw [HT2.out],?_,hgr5,HR6.out⟩
     rw [HQ.out,←List.append_assoc,HT2.out]
     first
      |(have E:=HE.out _ rfl;simp only [List.map_append,List.map_cons,List.map_nil,bv];rw [←E];simpa [bv] using hm5)
      |(have E:=HE.out 72057594037927936 rfl;have E2:(g:Int)/72057594037927936=U8 (be64b g 0):=by {rw [←E];omega};simpa [bv,E2] using hm5)
      |(have E:=HE.out 1 rfl;have E2:(g:Int)%256=U8 (be64b g 7):=by {rw [←E];omega};simpa [bv,E2] using hm5)
    case measure=>have:=HF.out;omega
  ·obtain rfl:t=8:=by have:=HF.out;omega
   rw [List.take_of_length_le (by rw [be64_length];omega)] at ho
   go_wp2_with fail
   go_ret
   exact ⟨a,c,rfl,ho,hgr,HRW.out⟩
set_option maxHeartbeats 1000000 in
set_option maxRecDepth 40000 in
theorem newkey_any (s:ByteArray) (M G:Nat) (ma:Option Addr) (mn mc:Nat) (m:List UInt8) (g:Nat) (w:World) (hs:s.size≤100) (hM:Blk w M #[.slice ma mn mc] 22) (hG:Blk w G #[.int .u64 (g:Int)] 105) (hm:BytesAt w ma m) (hml:m.length=mn) (hmm:mn<140737488352000) (hg:g<18446744073709551616):
  Calls Tryz.prog 138 #[.string s,.pointer (some ⟨M,0,none⟩),.pointer (some ⟨G,0,none⟩)] w (McOut w m (keyb (strL s) s.size g)):=by
 have HL:=Lib.hid hml
 obtain ⟨H,hH⟩:∃H,H=w.heap.size:=⟨_,rfl⟩
 have HH:=Lib.hid hH
 have hR0:=Blk.new w (vA 32 fun _=> .int .u8 0) 170
 have hw0:=(Below.refl w.heap.size w).alloc (Nat.le_refl _) (.cells (vA 32 fun _=> .int .u8 0) 170)
 rw [←hH] at hR0 hw0
 have hM0:=hM.alloc (.cells (vA 32 fun _=> .int .u8 0) 170)
 have hG0:=hG.alloc (.cells (vA 32 fun _=> .int .u8 0) 170)
 have hm0:=hm.alloc (.cells (vA 32 fun _=> .int .u8 0) 170)
 clear hml hH hM hG hm
 go_enter Tryz.func138,Tryz.ntmps138
 go_upto_region 1 with fail
 rw [←HH.out]
 refine wp_forget (fun W0=>Blk W0 H (vA 32 fun _=> .int .u8 0) 170∧Blk W0 M #[.slice ma mn mc] 22∧Blk W0 G #[.int .u64 (g:Int)] 105∧BytesAt W0 ma m∧Below H w W0) ⟨hR0,hM0,hG0,hm0,hw0⟩ ?_
 clear hR0 hM0 hG0 hm0 hw0
 rintro w1 ⟨hR,hM,hG,hm,hw⟩
 have c0:w1.cell? ⟨M,0,none⟩=some (.slice ma mn mc):=hM.cell rfl
 have c1:w1.cell? ⟨G,0,none⟩=some (.int .u64 (g:Int)):=hG.cell rfl
 have hlt:=hR.lt
 go_wp2_with fail
 refine (mkey_any m ma mn mc s g _ hm HL.out hmm (by omega) hg).mono ?_
 unfold McOut
 rintro e w2 ⟨rfl,hb2⟩
 have hR2:=hR.old hb2
 have hw2:=hw.trans (hb2.mono (Nat.le_of_lt hlt))
 clear hR hM hG hm hw c0 c1 hb2 hlt
 go_wp2_with (refine wpList_store_blk rfl 170 agg32 (.tmp 4) _ (cells:=mcA m (keyb (strL s) s.size g)) rfl rfl rfl hR2 (vA_size _ _) (vA_size _ _) (vA_one fun _ _=>rfl) ?_)
 exact post_blk rfl agg32 rfl (hR2.setRow _) (vA_size _ _) rfl ⟨rfl,HH.out▸below_setRow hw2 (Nat.le_refl _) _⟩
def boxF (m:List UInt8) (g:Nat) (i:Nat):Value:=if i<16 then .int .u8 (B8 (ckB m g i)) else if i<48 then bv (tkey m g (i-16)) else .int .u64 (g:Int)
def BoxAt (w:World) (B:Nat) (m:List UInt8) (g:Nat):Prop:=Blk w B (vA 49 (boxF m g)) 174
section
variable {w w':World} {B:Nat} {m:List UInt8} {g:Nat}
theorem BoxAt.old (h:BoxAt w B m g) (hb:Below w.heap.size w w'):BoxAt w' B m g:=Blk.old h hb
theorem BoxAt.keep (h:BoxAt w B m g) {H:Nat} (hB:B<H) (hb:Below H w w'):BoxAt w' B m g:=Blk.below h hb hB
theorem BoxAt.game (h:BoxAt w B m g):w.cell? ⟨B,48,none⟩=some (.int .u64 (g:Int)):=Blk.atV h (by omega) (by simp [boxF])
theorem BoxAt.tag (h:BoxAt w B m g):BytesAt w (some ⟨B,16,none⟩) (tkL m g):=by
 refine RowAt.mk fun i hi=> ?_
 rw [List.length_map,tkL_length] at hi
 rw [Blk.atV h (show 16+i<49 by omega) rfl,boxF,if_neg (by omega),if_pos (by omega)]
 simp [tkL]
theorem BoxAt.cipher (h:BoxAt w B m g):∀j (hj:j<(fL 16 (ckB m g)).length),w.cell? ⟨B,0+j,none⟩=some (fL 16 (ckB m g))[j]:=by
 intro j hj
 have hj':j<16:=by simpa [fL] using hj
 rw [Nat.zero_add,Blk.atV h (show j<49 by omega) rfl,boxF,if_pos hj']
 simp [fL,fv]
end
def NonP (w:World) (g n:Nat) (e:Ending) (w':World):Prop:=e= .returned (.agg (fA 12 (nonB g n)))∧Below w.heap.size w w'
theorem len12b:Tryz.prog.arrayLen 175=12:=by kernel_rfl
theorem elem12b:Tryz.prog.elem 175=5:=by kernel_rfl
theorem arr12b:Tryz.prog.underlying 175=some (.array (Tryz.prog.arrayLen 175) (Tryz.prog.elem 175)):=by rw [len12b,elem12b];exact Tryz.underlying175
theorem all12b (b:Nat) (W:World):(Instr.sliceAt 175 (.pointer (some ⟨b,0,none⟩)) none none none).run Tryz.prog W= .ok (.slice (some ⟨b,0,none⟩) 12 12) W:=by
 rw [run_sliceAt_array_all W _ _ arr12b,elem12b,sized_run u8Info,len12b]
 simp [slicedAt];rfl
theorem zero12b:(Tryz.prog.info? 175).bind (·.zero)=some (.agg (vA 12 fun _=> .int .u8 0)):=by kernel_rfl
theorem nonA (g n:Nat):(vA 12 fun i=>bv ((nonL g n).getD i 0))=fA 12 (nonB g n):=by
 unfold vA vL fA fL
 congr 1
set_option maxHeartbeats 2000000 in
set_option maxRecDepth 100000 in
theorem nonce_any (B:Nat) (m:List UInt8) (g n:Nat) (w:World) (hB:BoxAt w B m g) (hg:g<18446744073709551616) (hn:n<18446744073709551616):
  Calls Tryz.prog 113 #[.pointer (some ⟨B,0,none⟩),.int .u64 (n:Int)] w (NonP w g n):=by
 obtain ⟨H,hH⟩:∃H,H=w.heap.size:=⟨_,rfl⟩
 have HH:=Lib.hid hH
 have hlt:=hB.lt
 rw [←hH] at hlt
 have hR0:=Blk.new w (vA 12 fun _=> .int .u8 0) 175
 have hw0:=(Below.refl w.heap.size w).alloc (Nat.le_refl _) (.cells (vA 12 fun _=> .int .u8 0) 175)
 rw [←hH] at hR0 hw0
 have hB0:=hB.old ((Below.refl w.heap.size w).alloc (Nat.le_refl _) (.cells (vA 12 fun _=> .int .u8 0) 175))
 have hz:=zero_run zero12b
 clear hH hB
 go_enter Tryz.func113,Tryz.ntmps113
 go_upto_region 1 with fail
 clear hz
 rw [←HH.out]
 refine wp_forget (fun W0=>Blk W0 H (vA 12 fun _=> .int .u8 0) 175∧BoxAt W0 B m g∧Below H w W0) ⟨hR0,hB0,hw0⟩ ?_
 clear hR0 hB0 hw0
 rintro w1 ⟨hR,hB,hw⟩
 have q1:=all12b H
 have C0:Hid (∀W,Kept H w1.drew W→W.cell? ⟨B,48,none⟩=some (.int .u64 (g:Int))):=Lib.hid fun W hW=>(BoxAt.keep (w:=w1.drew) hB hlt hW).game
 have hszH:=hR.lt
 refine wp_region_kept H (0::1::2::3::4::7::5::6::8::9::[]) (by kernel_rfl) (by kernel_rfl) (fun c a d v w h=>by cases d<;>exact h) ?_
 repeat (first|(refine kept_quiet (v:= ?_) rfl rfl (by rfl) ?_ ?_;rotate_left;(intro W hW;go_simp);(try with_reducible rfl);simp only [Act.put,List.setIfInBounds_toArray,List.set])|(refine kept_skip rfl (by rfl) ?_;simp only [Act.put,List.setIfInBounds_toArray,List.set]))
 refine kept_quiet (v:= .int .u64 (g:Int)) rfl rfl (by rfl) (fun W hW=>by have:=C0.out W hW;go_simp) ?_
 simp only [Act.put,List.setIfInBounds_toArray,List.set]
 repeat (first|(refine kept_quiet (v:= ?_) rfl rfl (by rfl) ?_ ?_;rotate_left;(intro W hW;go_simp);(try with_reducible rfl);simp only [Act.put,List.setIfInBounds_toArray,List.set])|(refine kept_skip rfl (by rfl) ?_;simp only [Act.put,List.setIfInBounds_toArray,List.set]))
 refine kept_loud rfl rfl (by rfl) (fun K hK=> ?_)
 go_wp2_with fail
 refine (seight_any (H+1) 0 g [] none 0 _ hg (Mid.nil' _ _ _) (by exact hszH) (by omega)).mono ?_
 rintro e w2 ⟨a2,c2,rfl,hm2,hgr2,hr2⟩
 go_wp2_with fail
 have hk2:Kept H w1.drew w2:=(Below.refl H w1.drew).grown hgr2 (Nat.le_of_lt hszH) (by simp [rowB])
 refine hK _ _ hk2 ?_
 clear hK K
 have hR2:=hR.drew.grown hgr2 (by simp [rowB])
 have hc8:=hm2.le
 have hm4:=hm2.cut 4 (by omega)
 have hlen4:(be64 g).length=8:=be64_length g
 refine kept_quiet (v:= .slice (cutA a2 c2 4) 4 (c2-4)) rfl rfl (by rfl) (fun W hW=>by
  have:=run_cut_from (P:=Tryz.prog) Tryz.underlying22 u8Info a2 8 c2 4 (by omega) W
  unfold execOp
  simp only [Act.eval,Option.map]
  first
   |exact (by simpa using congrArg (fun r=>r.andThen fun v w=>Result.ok (Next.value v) w) this)
   |(unfold cutA;go_simp)) ?_
 simp only [Act.put,List.setIfInBounds_toArray,List.set]
 have hsz2:H+1≤w2.heap.size:=by have:=hgr2.size;have e:w1.drew.heap.size=w1.heap.size:=rfl;omega
 have hl4:((be64 g).map bv).drop 4=((be64 g).drop 4).map bv:=List.map_drop.symm
 have hm4':Mid w2 (H+1) 5 (cutA a2 c2 4) 4 (c2-4) (((be64 g).drop 4).map bv):=by
  rw [←hl4];simpa using hm4
 have hrow4:=rowB_cut a2 c2 4
 have hrr:∀r,rowB (cutA a2 c2 4) (c2-4)=some r→H+1≤r:=fun r hr=>(hm4'.lt hr).1
 clear hm4 hm2 hl4 hlen4
 refine kept_loud rfl rfl (by rfl) (fun K hK=> ?_)
 go_wp2_with fail
 refine (seight_any (H+1) 4 n ((be64 g).drop 4) _ _ _ hn hm4' hsz2 (by omega)).mono ?_
 rintro e w3 ⟨a3,c3,rfl,hm3,hgr3,-⟩
 go_wp2_with fail
 have hk3:Kept H w2 w3:=(Below.refl H w2).grown hgr3 (by omega) (fun r hr=>by have:=hrr r hr;omega)
 refine hK _ _ hk3 ?_
 clear hK K
 have hR3:=hR2.grown hgr3 (fun e=>by have:=hrr H e;omega)
 have hw3:Below H w w3:=(hw.drew.trans hk2).trans hk3
 have hl12:((be64 g).drop 4++be64 n).length=12:=nonL_length g n
 have hrd:BytesAt w3 a3 (nonL g n):=hm3.read
 obtain ⟨r3,o3,rfl,_⟩:=hrd.at (by rw [nonL_length];omega)
 have hsp:splice (vA 12 fun _=>Value.int .u8 0) 0 ((nonL g n).map bv).toArray=vA 12 fun i=>bv ((nonL g n).getD i 0):=by
  rw [list_vA,nonL_length]
  exact splice_whole _ _ (by rw [vA_size,vA_size])
 have HSP:=Lib.hid hsp
 clear hm3 hgr3 hm4' hrow4 hrr hk2 hk3 hR2 hgr2 hr2 hsp hl12 hsz2 hR hB
 refine kept_loud rfl rfl (by rfl) (fun K hK=> ?_)
 refine wp_copy_row _ _ 22 22 rfl Tryz.underlying22 u8Info rfl rfl hR3 (cs:=(nonL g n).map bv) (by rw [List.length_map,nonL_length];rfl) (RowAt.all hrd) (by rw [List.length_map,nonL_length,vA_size];omega) (bv_one _) ?_
 rw [HSP.out]
 refine hK _ _ (below_setRow (Below.refl _ _) (Nat.le_refl _) _) ?_
 clear hK K
 refine kept_nil ?_
 have hR4:=hR3.setRow (vA 12 fun i=>bv ((nonL g n).getD i 0))
 have hw4:=below_setRow hw3 (Nat.le_refl H) (vA 12 fun i=>bv ((nonL g n).getD i 0))
 rw [nonA] at hR4 hw4⊢
 refine g_forget (fun W0=>Blk W0 H (fA 12 (nonB g n)) 175∧Below H w W0) ⟨hR4,hw4⟩ ?_
 clear hR3 hw3 hR4 hw4 hrd HSP hw
 rintro w5 ⟨hR,hw⟩
 go_wp2_with (first|refine wpList_load_blk rfl 175 agg12 _ rfl rfl hR (fA_size _ _) ?_|refine wpList_store_blk rfl 175 agg12 (.tmp 4) _ (cells:=fA 12 (nonB g n)) rfl rfl rfl hR (fA_size _ _) (fA_size _ _) (fA_one _ _) ?_)
 exact post_blk rfl agg12 rfl (hR.setRow _) (fA_size _ _) rfl ⟨rfl,HH.out▸below_setRow hw (Nat.le_refl _) _⟩
theorem all32o (b o:Nat) (W:World):(Instr.sliceAt 170 (.pointer (some ⟨b,o,none⟩)) none none none).run Tryz.prog W= .ok (.slice (some ⟨b,o,none⟩) 32 32) W:=by
 rw [run_sliceAt_array_all W _ _ arr32b,elem32b,sized_run u8Info,len32b]
 simp [slicedAt];rfl
def MarP (w:World) (m:List UInt8) (g n:Nat) (c:List UInt8) (e:Ending) (w':World):Prop:=e= .returned (.agg (dgA (markL m g n c)))∧Below w.heap.size w w'
set_option maxHeartbeats 2000000 in
set_option maxRecDepth 100000 in
theorem mark_any (B:Nat) (m:List UInt8) (g n:Nat) (ca:Option Addr) (cn cc:Nat) (c:List UInt8) (w:World) (hB:BoxAt w B m g) (hc:BytesAt w ca c) (hcl:c.length=cn) (hcm:cn≤100000) (hg:g<18446744073709551616) (hn:n<18446744073709551616):
  Calls Tryz.prog 114 #[.pointer (some ⟨B,0,none⟩),.int .u64 (n:Int),.slice ca cn cc] w (MarP w m g n c):=by
 have HC:=Lib.hid hcl
 obtain ⟨H,hH⟩:∃H,H=w.heap.size:=⟨_,rfl⟩
 have HH:=Lib.hid hH
 have hlt:=hB.lt
 rw [←hH] at hlt
 have hbb:=(Below.refl w.heap.size w).alloc (Nat.le_refl _) (.cells (vA 32 fun _=> .int .u8 0) 170)
 have hR0:=Blk.new w (vA 32 fun _=> .int .u8 0) 170
 have hB0:=hB.old hbb
 have hw0:=hbb
 rw [←hH] at hR0 hw0
 have hc0:=Lib.hid hc
 clear hcl hH hB hc hbb
 go_enter Tryz.func114,Tryz.ntmps114
 go_upto_region 1 with fail
 rw [←HH.out]
 refine wp_forget (fun W0=>Blk W0 H (vA 32 fun _=> .int .u8 0) 170∧BoxAt W0 B m g∧Below H w W0) ⟨hR0,hB0,hw0⟩ ?_
 clear hR0 hB0 hw0
 rintro w1 ⟨hR,hB,hw⟩
 have q1:=all32o B 16
 have C0:Hid (∀W,Kept H w1.drew W→W.cell? ⟨B,48,none⟩=some (.int .u64 (g:Int))):=Lib.hid fun W hW=>(BoxAt.keep (w:=w1.drew) hB hlt hW).game
 have hszH:=hR.lt
 refine wp_region_kept H (0::1::2::3::4::5::6::7::8::10::12::9::11::13::14::15::[]) (by kernel_rfl) (by kernel_rfl) (fun c a d v w h=>by cases d<;>exact h) ?_
 repeat (first|(refine kept_quiet (v:= ?_) rfl rfl (by rfl) ?_ ?_;rotate_left;(intro W hW;go_simp);(try with_reducible rfl);simp only [Act.put,List.setIfInBounds_toArray,List.set])|(refine kept_skip rfl (by rfl) ?_;simp only [Act.put,List.setIfInBounds_toArray,List.set]))
 refine kept_quiet (v:= .int .u64 (g:Int)) rfl rfl (by rfl) (fun W hW=>by have:=C0.out W hW;go_simp) ?_
 simp only [Act.put,List.setIfInBounds_toArray,List.set]
 repeat (first|(refine kept_quiet (v:= ?_) rfl rfl (by rfl) ?_ ?_;rotate_left;(intro W hW;go_simp);(try with_reducible rfl);simp only [Act.put,List.setIfInBounds_toArray,List.set])|(refine kept_skip rfl (by rfl) ?_;simp only [Act.put,List.setIfInBounds_toArray,List.set]))
 refine kept_loud rfl rfl (by rfl) (fun K hK=> ?_)
 go_wp2_with fail
 refine (seight_any (H+1) 0 g [] none 0 _ hg (Mid.nil' _ _ _) (by exact hszH) (by omega)).mono ?_
 rintro e w2 ⟨a2,c2,rfl,hm2,hgr2,-⟩
 go_wp2_with fail
 have hk2:Kept H w1.drew w2:=(Below.refl H w1.drew).grown hgr2 (Nat.le_of_lt hszH) (by simp [rowB])
 refine hK _ _ hk2 ?_
 clear hK K
 have hR2:=hR.drew.grown hgr2 (by simp [rowB])
 have hsz2:H+1≤w2.heap.size:=by have:=hgr2.size;have e:w1.drew.heap.size=w1.heap.size:=rfl;omega
 have hrr:∀r,rowB a2 c2=some r→H+1≤r:=fun r hr=>(hm2.lt hr).1
 clear hgr2
 refine kept_loud rfl rfl (by rfl) (fun K hK=> ?_)
 go_wp2_with fail
 refine (seight_any (H+1) 8 n (be64 g) _ _ _ hn (by simpa using hm2) hsz2 (by omega)).mono ?_
 rintro e w3 ⟨a3,c3,rfl,hm3,hgr3,-⟩
 go_wp2_with fail
 have hk3:Kept H w2 w3:=(Below.refl H w2).grown hgr3 (by omega) (fun r hr=>by have:=hrr r hr;omega)
 refine hK _ _ hk3 ?_
 clear hK K
 have hR3:=hR2.grown hgr3 (fun e=>by have:=hrr H e;omega)
 have hk13:Kept H w1.drew w3:=Below.trans hk2 hk3
 have hsz3:H+1≤w3.heap.size:=by have:=hgr3.size;omega
 have hrr3:∀r,rowB a3 c3=some r→H+1≤r:=fun r hr=>(hm3.lt hr).1
 clear hgr3 hrr hm2 hR2 hk2 hk3 hsz2 hR
 have hcw3:=hc0.out.below (HH.out▸hw.drew.trans hk13)
 refine kept_loud rfl rfl (by rfl) (fun K hK=> ?_)
 refine wp_append_mid _ _ 22 rfl bytesT3 rfl hm3 rfl hcw3 (by rw [List.length_map,HC.out]) (bv_one _) (by unfold maxLen;omega) (by omega) hsz3 ?_
 intro a4 c4 w4 hm4 hgr4 _
 have hk4:Kept H w3 w4:=(Below.refl H w3).grown hgr4 (by omega) (fun r hr=>by have:=hrr3 r hr;omega)
 refine hK _ _ hk4 ?_
 clear hK K
 have hR4:=hR3.grown hgr4 (fun e=>by have:=hrr3 H e;omega)
 have hk14:Kept H w1.drew w4:=Below.trans hk13 hk4
 have hB4:=BoxAt.keep (w:=w1.drew) hB hlt hk14
 have hrd:BytesAt w4 a4 (be64 g++be64 n++c):=by
  have:=hm4.read
  unfold BytesAt
  rw [List.map_append];exact this
 have hlen:(be64 g++be64 n++c).length=8+8+cn:=by rw [List.length_append,List.length_append,be64_length,be64_length,HC.out]
 obtain ⟨bb,hbb⟩:∃bb,bb=be64 g++be64 n++c:=⟨_,rfl⟩
 rw [←hbb] at hlen hrd
 have hmk:dgA (markL m g n c)=mcA (tkL m g) bb:=by rw [hbb];rfl
 have HMK:=Lib.hid hmk
 have HLN:=Lib.hid hlen
 clear hbb hmk hgr4 hrr3 hm3 hm4 hR3 hk13 hk4 hsz3 hcw3 hlen
 simp only [Act.put,List.setIfInBounds_toArray,List.set]
 refine kept_loud rfl rfl (by rfl) (fun K hK=> ?_)
 go_wp2_with fail
 refine (mac_any (tkL m g) bb _ 32 32 _ (8+8+cn) _ _ hB4.tag (tkL_length _ _) (by omega) hrd HLN.out (by omega)).mono ?_
 rintro e w5 ⟨rfl,hb5⟩
 go_wp2_with fail
 have hlt4:=hR4.lt
 refine hK _ _ (hb5.mono (Nat.le_of_lt hlt4)) ?_
 clear hK K
 have hR5:=hR4.old hb5
 have hw5:Below H w w5:=(hw.drew.trans hk14).trans (hb5.mono (Nat.le_of_lt hlt4))
 clear hR4 hk14 hB4 hrd hb5 hlt4
 refine kept_loud rfl rfl (by rfl) (fun K hK=> ?_)
 refine wp_store_at 170 agg32 (.tmp 6) (.tmp 21) rfl rfl rfl hR5 (vA_size _ _) (by rw [vA_size];omega) (vA_one fun _ _=>rfl) ?_
 rw [splice_whole _ _ (by rw [vA_size];exact (vA_size _ _).symm)]
 refine hK _ _ (below_setRow (Below.refl _ _) (Nat.le_refl _) _) ?_
 clear hK K
 refine kept_nil ?_
 have hR6:=hR5.setRow (mcA (tkL m g) bb)
 have hw6:=below_setRow hw5 (Nat.le_refl H) (mcA (tkL m g) bb)
 go_wp2_with fail
 exact post_blk rfl agg32 rfl hR6 (vA_size _ _) rfl ⟨by rw [HMK.out],HH.out▸hw6⟩
theorem exec_build2 {P:Program} {w:World} {o:Oper} {f:Operand→Value} (t:TypeId) (x y:Operand) (ho:o.op= .build t #[(0,x),(1,y)]) {u v:Value} (hu:f x=u) (hv:f y=v) {cells:Array Value} (h:P.built t [(0,u),(1,v)]=some cells):
  (execOp f o).run P w= .ok (.value (.agg cells)) w:=by
 subst hu hv
 unfold execOp
 simp only [ho,Sem.run_bind,run_build w t #[(0,f x),(1,f y)] cells h,Result.andThen_ok,Sem.run_pure,List.map_toArray,List.map_cons,List.map_nil]
theorem built_keys (c:Nat→BitVec 8) (f:Nat→Value):Tryz.prog.built 172 [(0,.agg (fA 16 c)),(1,.agg (vA 32 f))]=some (vA 48 fun i=>if i<16 then fv (c i) else f (i-16)):=by kernel_rfl
theorem built_box (h:Nat→Value) (g:Int):Tryz.prog.built 174 [(0,.agg (vA 48 h)),(1,.int .u64 g)]=some (vA 49 fun i=>if i<48 then h i else .int .u64 g):=by kernel_rfl
def SnP (w:World) (m:List UInt8) (g:Nat) (e:Ending) (w':World):Prop:=∃B,e= .returned (.pointer (some ⟨B,0,none⟩))∧w.heap.size≤B∧BoxAt w' B m g∧Below w.heap.size w w'
set_option maxHeartbeats 2000000 in
set_option maxRecDepth 100000 in
theorem snew_any (ma:Option Addr) (mn mc:Nat) (m:List UInt8) (g:Nat) (w:World) (hm:BytesAt w ma m) (hml:m.length=mn) (hmm:mn<140737488352000) (hg:g<18446744073709551616):
  Calls Tryz.prog 110 #[.slice ma mn mc,.int .u64 (g:Int)] w (SnP w m g):=by
 have HL:=Lib.hid hml
 obtain ⟨H,hH⟩:∃H,H=w.heap.size:=⟨_,rfl⟩
 have HH:=Lib.hid hH
 have hM0:=(Blk.new w #[.slice ma mn mc] 22).alloc (.cells #[.int .u64 (g:Int)] 105)
 have hG0:=Blk.new (w.alloc (.cells #[.slice ma mn mc] 22)) #[.int .u64 (g:Int)] 105
 have hw0:=((Below.refl w.heap.size w).alloc (Nat.le_refl _) (.cells #[.slice ma mn mc] 22)).alloc (by simp) (.cells #[.int .u64 (g:Int)] 105)
 have hm0:=(hm.alloc (.cells #[.slice ma mn mc] 22)).alloc (.cells #[.int .u64 (g:Int)] 105)
 simp only [World.size_alloc] at hG0
 rw [←hH] at hM0 hG0 hw0
 have hnk:=fun (s:ByteArray) (W:World) hs hM hG hm=>newkey_any s H (H+1) ma mn mc m g W hs hM hG hm HL.out hmm hg
 have HNK:=Lib.hid hnk
 clear hml hH hm hnk
 go_enter Tryz.func110,Tryz.ntmps110
 go_upto_region 1 with fail
 rw [←HH.out]
 refine wp_forget (fun W0=>Blk W0 H #[.slice ma mn mc] 22∧Blk W0 (H+1) #[.int .u64 (g:Int)] 105∧BytesAt W0 ma m∧Below H w W0) ⟨hM0,hG0,hm0,hw0⟩ ?_
 clear hM0 hG0 hm0 hw0
 rintro w1 ⟨hM,hG,hm,hw⟩
 have hlt:=hG.lt
 go_wp2_with fail
 refine (HNK.out (strOf nCipher) _ (by decide) hM hG hm).mono ?_
 unfold McOut
 rintro e w2 ⟨rfl,hb2⟩
 have hM2:=hM.old hb2
 have hG2:=hG.old hb2
 have hm2:=hm.below hb2
 have hw2:=hw.trans (hb2.mono (by omega))
 have hs2:=hb2.size
 clear hM hG hm hw hb2
 obtain ⟨X,hX⟩:∃X,X=mcA m (keyb (strL (strOf nCipher)) (strOf nCipher).size g):=⟨_,rfl⟩
 have hXs:X.size=32:=by rw [hX];exact vA_size _ _
 have hX1:X.toList.all (·.oneCell')=true:=by rw [hX];exact vA_one fun _ _=>rfl
 have hXc:∀j (hj:j<(fL 16 (ckB m g)).length),X[j]? =some (fL 16 (ckB m g))[j]:=by
  intro j hj
  have hj':j<16:=by simpa [fL] using hj
  rw [hX]
  have:mcA m (keyb (strL (strOf nCipher)) (strOf nCipher).size g)=vA 32 fun i=>bv (ckey m g i):=rfl
  rw [this,vA_at _ (by omega)]
  simp [fL,fv]
  rfl
 rw [←hX]
 clear hX
 go_upto_region 3 with (refine wpList_store_blk rfl 170 agg32 (.tmp 6) _ (cells:=X) rfl rfl rfl (Blk.new _ _ _) hXs rfl hX1 ?_)
 obtain ⟨C,hC⟩:∃C,C=w2.heap.size:=⟨_,rfl⟩
 have hC0:=Blk.new w2 (vA 32 fun _=> .int .u8 0) 170
 have hbb:=below_setRow ((Below.refl w2.heap.size w2).alloc (Nat.le_refl _) (.cells (vA 32 fun _=> .int .u8 0) 170)) (Nat.le_of_eq hC.symm) X
 rw [←hC] at hC0⊢
 refine wp_forget (fun W0=>Blk W0 H #[.slice ma mn mc] 22∧Blk W0 (H+1) #[.int .u64 (g:Int)] 105∧Blk W0 C X 170∧BytesAt W0 ma m∧Below H w W0) ⟨hM2.old hbb,hG2.old hbb,hC0.setRow _,hm2.below hbb,hw2.trans (hbb.mono (by omega))⟩ ?_
 clear hM2 hG2 hm2 hw2 hs2 hC0 hbb hC hlt
 rintro w3 ⟨hM,hG,hC,hm,hw⟩
 have hlt:=hG.lt
 have ar:∀p c W,(Instr.arrayAt 169 (.slice (some p) 16 c)).run Tryz.prog W= .ok (.pointer (some p)) W:=fun p c W=>by
  simp [Instr.arrayAt,run_underlying Tryz.underlying169]
 have C1:Hid (∀W,Old w3.drew W→W.cell? ⟨H+1,0,none⟩=some (.int .u64 (g:Int))):=Lib.hid fun W hW=>(Blk.old (w:=w3.drew) hG hW).cell rfl
 refine wp_region_old (0::1::2::3::6::4::5::7::8::9::[]) (by kernel_rfl) (by kernel_rfl) (fun c a d v w h=>by cases d<;>exact h) ?_
 repeat (first|(refine lex_skip rfl (by rfl) ?_;simp only [Act.put,List.setIfInBounds_toArray,List.set])|(refine lex_quiet (v:= ?_) rfl rfl (by rfl) ?_ ?_;rotate_left;(intro W hW;go_simp);(try with_reducible rfl);simp only [Act.put,List.setIfInBounds_toArray,List.set]))
 refine lex_quiet (v:= .agg (fA 16 (ckB m g))) rfl rfl (by rfl) (fun W hW=>exec_load_as 169 agg16 _ rfl rfl rfl (fun j hj=>by rw [Nat.zero_add,(Blk.old (w:=w3.drew) hC hW).rule];exact hXc j hj) (fL_length _ _)) ?_
 simp only [Act.put,List.setIfInBounds_toArray,List.set]
 repeat (first|(refine lex_skip rfl (by rfl) ?_;simp only [Act.put,List.setIfInBounds_toArray,List.set])|(refine lex_quiet (v:= ?_) rfl rfl (by rfl) ?_ ?_;rotate_left;(intro W hW;go_simp);(try with_reducible rfl);simp only [Act.put,List.setIfInBounds_toArray,List.set]))
 refine lex_quiet (v:= .int .u64 (g:Int)) rfl rfl (by rfl) (fun W hW=>by have:=C1.out W hW;go_simp) ?_
 simp only [Act.put,List.setIfInBounds_toArray,List.set]
 refine lex_loud rfl rfl (by rfl) (fun K hK=> ?_);go_wp2_with fail
 refine (HNK.out (strOf nTag) _ (by decide) hM.drew hG.drew hm.drew).mono ?_
 unfold McOut
 rintro e w4 ⟨rfl,hb4⟩
 go_wp2_with fail
 refine hK _ _ hb4 ?_
 clear hK K
 rw [show mcA m (keyb (strL (strOf nTag)) (strOf nTag).size g)=vA 32 fun i=>bv (tkey m g i) from rfl]
 refine lex_quiet (v:= .agg (vA 48 fun i=>if i<16 then fv (ckB m g i) else bv (tkey m g (i-16)))) rfl rfl (by rfl) (fun W hW=>exec_build2 172 (.tmp 12) (.tmp 14) rfl rfl rfl (built_keys (ckB m g) (fun i=>bv (tkey m g i)))) ?_
 simp only [Act.put,List.setIfInBounds_toArray,List.set]
 refine lex_quiet (v:= .agg (vA 49 fun i=>if i<48 then (if i<16 then fv (ckB m g i) else bv (tkey m g (i-16))) else .int .u64 (g:Int))) rfl rfl (by rfl) (fun W hW=>exec_build2 174 (.tmp 15) (.tmp 16) rfl rfl rfl (built_box (fun i=>if i<16 then fv (ckB m g i) else bv (tkey m g (i-16))) (g:Int))) ?_
 simp only [Act.put,List.setIfInBounds_toArray,List.set]
 have hbF:(vA 49 fun i=>if i<48 then (if i<16 then fv (ckB m g i) else bv (tkey m g (i-16))) else .int .u64 (g:Int))=vA 49 (boxF m g):=by
  refine vA_eq fun i hi=> ?_
  unfold boxF
  by_cases e1:i<16
  ·rw [if_pos (by omega),if_pos e1,if_pos e1];rfl
  ·by_cases e2:i<48
   ·rw [if_pos e2,if_neg e1,if_neg e1,if_pos e2]
   ·rw [if_neg e2,if_neg e1,if_neg e2]
 rw [hbF]
 clear hbF
 obtain ⟨Z,hZ⟩:∃Z,Z=vA 49 (boxF m g):=⟨_,rfl⟩
 rw [←hZ]
 have HZ:=Lib.hid hZ
 clear hZ
 refine lex_loud rfl rfl (by rfl) (fun K hK=> ?_);go_wp2_with fail
 have hb34:Below w3.heap.size w3 w4:=⟨hb4.os,hb4.tape,hb4.output,hb4.size,hb4.block⟩
 refine hK _ _ ((Below.refl _ _).alloc (Nat.le_refl _) _) ?_
 clear hK K
 repeat (first|(refine lex_skip rfl (by rfl) ?_;simp only [Act.put,List.setIfInBounds_toArray,List.set])|(refine lex_quiet (v:= ?_) rfl rfl (by rfl) ?_ ?_;rotate_left;(intro W hW;go_simp);(try with_reducible rfl);simp only [Act.put,List.setIfInBounds_toArray,List.set]))
 refine lex_nil ?_
 have hw4:=hw.trans (hb34.mono (by omega))
 have hs4:=hb34.size
 have hN:=Blk.new w4 Z 174
 have hw5:=hw4.alloc (show H≤w4.heap.size by omega) (.cells Z 174)
 go_wp2_with fail
 go_ret
 refine ⟨w4.heap.size,rfl,by rw [←HH.out];omega,?_,HH.out▸hw5⟩
 unfold BoxAt
 rw [←HZ.out]
 exact hN
end
end Go.Proofs.YtioigihakjlopaaGreat
