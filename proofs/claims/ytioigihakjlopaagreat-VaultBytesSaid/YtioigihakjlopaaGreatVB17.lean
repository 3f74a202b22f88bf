/- Texts put together and cut to what is used: ShaBlock. -/
import Derived.Test.YtioigihakjlopaaGreatVB16
import Derived.Test.YtioigihakjlopaaGreatRows
namespace Go.Proofs.YtioigihakjlopaaGreat
set_option linter.unusedVariables false
set_option linter.unusedSimpArgs false
section
open Go.RowKit
theorem wrap32 (n:Int):IntKind.u32.wrap n=n%4294967296:=by simp [IntKind.wrap,IntKind.bits,IntKind.signed]
theorem addm_U32 (a b:BitVec 32):(U32 a+U32 b)%(4294967296:Int)=U32 (a+b):=by
 simp only [U32,BitVec.toNat_add];omega
theorem add_U32 (a b:BitVec 32):IntKind.u32.wrap (U32 a+U32 b)=U32 (a+b):=by rw [wrap32,addm_U32]
theorem div8_U32 (a:BitVec 32):U32 a/(8:Int)=U32 (a>>>3):=U32_shr_pow a 3
theorem div1024_U32 (a:BitVec 32):U32 a/(1024:Int)=U32 (a>>>10):=U32_shr_pow a 10
theorem shl8_U32 (a:BitVec 32):U32 a*(256:Int)%(4294967296:Int)=U32 (a<<<8):=U32_shl a 8
theorem word_step (v:BitVec 32) (c:UInt8):U32 (v<<<8|||BitVec.ofInt 32 (U8 c%(4294967296:Int)))=U32 (v<<<8|||c.toBitVec.setWidth 32):=by
 rw [show U8 c%(4294967296:Int)=U8 c from by have:=U8_lo c;have:=U8_hi c;omega,ofInt32_U8]
attribute [local go_sem] shl8_U32 ofInt32_U8 bits_xor_u32 bits_and_u32 bits_or_u32 ofInt_U32 addm_U32 add_U32 div8_U32 div1024_U32 not_u32
def rots:List Nat:=[7,18,17,19,6,11,25,2,13,22]
theorem rot_sh (x:BitVec 32) (n:Nat) (p q:Int) (hp:p=(2:Int)^(32-n)) (hq:q=(2:Int)^n):BitVec.ofInt 32 (U32 x*p%4294967296)|||BitVec.ofInt 32 (U32 x/q)=rr x n:=by
 have h1:U32 x*((2^(32-n):Nat):Int)%4294967296=U32 (x<<<(32-n)):=U32_shl x (32-n)
 have h2:U32 x/(2:Int)^n=U32 (x>>>n):=U32_shr_pow x n
 rw [hp,hq,h2,show (2:Int)^(32-n)=((2^(32-n):Nat):Int) by norm_cast,h1,ofInt_U32,ofInt_U32];rfl
set_option maxHeartbeats 400000 in
theorem rotl32_any (x:BitVec 32) (n:Nat) (hn:n∈rots) (w:World):
  Calls Tryz.prog 206 #[.int .u32 (U32 x),.int .i64 (-(n:Int))] w fun e w'=>e= .returned (.int .u32 (U32 (rr x n)))∧w=w':=by
 simp only [rots,List.mem_cons,List.not_mem_nil,or_false] at hn
 rcases hn with rfl|rfl|rfl|rfl|rfl|rfl|rfl|rfl|rfl|rfl
 ·have t:bits .and .u64 (IntKind.u64.wrap (-7)) 31=25:=by decide
  go_enter Tryz.func206,Tryz.ntmps206
  go_wp2_with fail
  go_ret
  exact ⟨by rw [←rot_sh x 7 33554432 128 rfl rfl];rfl,rfl⟩
 ·have t:bits .and .u64 (IntKind.u64.wrap (-18)) 31=14:=by decide
  go_enter Tryz.func206,Tryz.ntmps206
  go_wp2_with fail
  go_ret
  exact ⟨by rw [←rot_sh x 18 16384 262144 rfl rfl];rfl,rfl⟩
 ·have t:bits .and .u64 (IntKind.u64.wrap (-17)) 31=15:=by decide
  go_enter Tryz.func206,Tryz.ntmps206
  go_wp2_with fail
  go_ret
  exact ⟨by rw [←rot_sh x 17 32768 131072 rfl rfl];rfl,rfl⟩
 ·have t:bits .and .u64 (IntKind.u64.wrap (-19)) 31=13:=by decide
  go_enter Tryz.func206,Tryz.ntmps206
  go_wp2_with fail
  go_ret
  exact ⟨by rw [←rot_sh x 19 8192 524288 rfl rfl];rfl,rfl⟩
 ·have t:bits .and .u64 (IntKind.u64.wrap (-6)) 31=26:=by decide
  go_enter Tryz.func206,Tryz.ntmps206
  go_wp2_with fail
  go_ret
  exact ⟨by rw [←rot_sh x 6 67108864 64 rfl rfl];rfl,rfl⟩
 ·have t:bits .and .u64 (IntKind.u64.wrap (-11)) 31=21:=by decide
  go_enter Tryz.func206,Tryz.ntmps206
  go_wp2_with fail
  go_ret
  exact ⟨by rw [←rot_sh x 11 2097152 2048 rfl rfl];rfl,rfl⟩
 ·have t:bits .and .u64 (IntKind.u64.wrap (-25)) 31=7:=by decide
  go_enter Tryz.func206,Tryz.ntmps206
  go_wp2_with fail
  go_ret
  exact ⟨by rw [←rot_sh x 25 128 33554432 rfl rfl];rfl,rfl⟩
 ·have t:bits .and .u64 (IntKind.u64.wrap (-2)) 31=30:=by decide
  go_enter Tryz.func206,Tryz.ntmps206
  go_wp2_with fail
  go_ret
  exact ⟨by rw [←rot_sh x 2 1073741824 4 rfl rfl];rfl,rfl⟩
 ·have t:bits .and .u64 (IntKind.u64.wrap (-13)) 31=19:=by decide
  go_enter Tryz.func206,Tryz.ntmps206
  go_wp2_with fail
  go_ret
  exact ⟨by rw [←rot_sh x 13 524288 8192 rfl rfl];rfl,rfl⟩
 ·have t:bits .and .u64 (IntKind.u64.wrap (-22)) 31=10:=by decide
  go_enter Tryz.func206,Tryz.ntmps206
  go_wp2_with fail
  go_ret
  exact ⟨by rw [←rot_sh x 22 1024 4194304 rfl rfl];rfl,rfl⟩
theorem rotr_any (x:BitVec 32) (n:Nat) (hn:n∈rots) (w:World):
  Calls Tryz.prog 205 #[.int .u32 (U32 x),.int .i64 (n:Int)] w fun e w'=>e= .returned (.int .u32 (U32 (rr x n)))∧w=w':=by
 have hn2:(n:Int)≤100:=by
  simp only [rots,List.mem_cons,List.not_mem_nil,or_false] at hn
  omega
 have HN:=Lib.hid hn
 clear hn
 go_enter Tryz.func205,Tryz.ntmps205
 go_wp2_with fail
 refine (rotl32_any x n HN.out _).mono ?_
 rintro e w' ⟨rfl,rfl⟩
 go_wp2_with fail
 go_ret
 exact ⟨rfl,rfl⟩
def hcs (h:Nat→BitVec 32) (r n:Value) (j:Nat):Value:=if j<8 then wv (h j) else if j=8 then r else if j=9 then n else wv (kwd (j-10))
theorem hcs_h (h:Nat→BitVec 32) (r n:Value) {j:Nat} (hj:j<8):hcs h r n j= .int .u32 (U32 (h j)):=by rw [hcs,if_pos hj];rfl
theorem hcs_k (h:Nat→BitVec 32) (r n:Value) {j:Nat} (hj:j<64):hcs h r n (10+j)= .int .u32 (U32 (kwd j)):=by
 rw [hcs,if_neg (by omega),if_neg (by omega),if_neg (by omega),Nat.add_sub_cancel_left];rfl
theorem hashT:AggT Tryz.prog 270 74:=⟨⟨_,Tryz.underlying270,rfl⟩,by kernel_rfl⟩
theorem agg8:AggT Tryz.prog 267 8:=⟨⟨_,Tryz.underlying267,rfl⟩,by kernel_rfl⟩
theorem agg64:AggT Tryz.prog 268 64:=⟨⟨_,Tryz.underlying268,rfl⟩,by kernel_rfl⟩
theorem agg32:AggT Tryz.prog 170 32:=⟨⟨_,Tryz.underlying170,rfl⟩,by kernel_rfl⟩
theorem zero64:(Tryz.prog.info? 268).bind (·.zero)=some (.agg (vA 64 fun _=> .int .u32 0)):=by kernel_rfl
structure BkIn (w:World) (g H:Nat) (h:Nat→BitVec 32) (r n:Value) (W:Nat→BitVec 32) (wr:World):Prop where
 hash:Blk wr g (vA 74 (hcs h r n)) 270
 words:Blk wr H (vA 64 fun j=>wv (W j)) 268
 only:w.grownBy wr (some g)
def Bk1 (w:World) (g H:Nat) (h:Nat→BitVec 32) (r n:Value) (m:List UInt8) (f:Nat) (i:Value) (wr:World):Prop:=
 ∃t:Nat,f+t=16∧i= .int .i64 (t:Int)∧BkIn w g H h r n (fun j=>if j<t then wd m 0 j else 0#32) wr
def Bk2 (w:World) (g H:Nat) (h:Nat→BitVec 32) (r n:Value) (m:List UInt8) (t:Nat) (f:Nat) (i:Value) (wr:World):Prop:=
 ∃q:Nat,f+q=4∧i= .int .i64 (q:Int)∧BkIn w g H h r n (fun j=>if j=t then wpart m (4*t) q else if j<t then wd m 0 j else 0#32) wr
def Bk3 (w:World) (g H:Nat) (h:Nat→BitVec 32) (r n:Value) (w0:Nat→BitVec 32) (f:Nat) (i:Value) (wr:World):Prop:=
 ∃t k:Nat,f+t=64∧t=16+k∧i= .int .i64 (t:Int)∧BkIn w g H h r n (wx w0 k) wr
def Bk4 (w:World) (g H V:Nat) (h:Nat→BitVec 32) (r n:Value) (u:Nat→BitVec 32) (f:Nat) (i:Value) (wr:World):Prop:=
 ∃t:Nat,f+t=64∧i= .int .i64 (t:Int)∧BkIn w g H h r n u wr∧Blk wr V (vA 8 fun j=>wv (vs h u t j)) 267
def Bk5 (w:World) (g:Nat) (h:Nat→BitVec 32) (r n:Value) (u:Nat→BitVec 32) (f:Nat) (i:Value) (wr:World):Prop:=
 ∃t:Nat,f+t=8∧i= .int .i64 (t:Int)∧Blk wr g (vA 74 (hcs (fun j=>if j<t then h j+vs h u 64 j else h j) r n)) 270∧w.grownBy wr (some g)
theorem u32Info:(Tryz.prog.info? 196).map (·.size)=some 1:=by kernel_rfl
theorem idx64 (f:Nat→Value) (t:Nat) (ht:t<64) (W:World):(Instr.index 268 (.agg (vA 64 f)) (.int .i64 (t:Int))).run Tryz.prog W= .ok (f t) W:=
 run_index_arr Tryz.underlying268 Tryz.underlying196 rfl u32Info W _ t _ (vA_at f ht) ht
theorem idx8 (f:Nat→Value) (t:Nat) (ht:t<8) (W:World):(Instr.index 267 (.agg (vA 8 f)) (.int .i64 (t:Int))).run Tryz.prog W= .ok (f t) W:=
 run_index_arr Tryz.underlying267 Tryz.underlying196 rfl u32Info W _ t _ (vA_at f ht) ht
theorem len8:Tryz.prog.arrayLen 267=8:=by kernel_rfl
theorem elem8:Tryz.prog.elem 267=196:=by kernel_rfl
theorem arr8:Tryz.prog.underlying 267=some (.array (Tryz.prog.arrayLen 267) (Tryz.prog.elem 267)):=by rw [len8,elem8];exact Tryz.underlying267
theorem cut_1 (b:Nat) (W:World):(Instr.sliceAt 267 (.pointer (some ⟨b,0,none⟩)) (some (.int .i64 1)) none none).run Tryz.prog W= .ok (.slice (some ⟨b,1,none⟩) 7 7) W:=by
 rw [run_sliceAt_array_l W _ _ arr8 .i64 1 (by omega) (by rw [len8];omega),elem8,sized_run u32Info,len8]
 simp [slicedAt,Addr.add_mid]
theorem cut_7 (b:Nat) (W:World):(Instr.sliceAt 267 (.pointer (some ⟨b,0,none⟩)) none (some (.int .i64 7)) none).run Tryz.prog W= .ok (.slice (some ⟨b,0,none⟩) 7 8) W:=by
 rw [run_sliceAt_array_h W _ _ arr8 .i64 7 (by omega) (by rw [len8];omega),elem8,sized_run u32Info,len8]
 simp [slicedAt,Addr.add_mid]
theorem cmp_of {h w w' u:Nat→BitVec 32} (hu:u=wx w 48) (hw:∀t,t<16→w t=w' t) (j:Nat) (hj:j<8):h j+vs h u 64 j=cmp h w' j:=by
 subst hu
 exact cmp_eq (h:=h) (g:=h) (fun _ _=>rfl) hw j hj
theorem rotr_of (x:BitVec 32) (n:Nat) (z:Int) (hz:z=(n:Int)) (hn:n∈rots) (w:World):
  Calls Tryz.prog 205 #[.int .u32 (U32 x),.int .i64 z] w fun e w'=>e= .returned (.int .u32 (U32 (rr x n)))∧w=w':=by
 subst hz;exact rotr_any x n hn w
set_option maxHeartbeats 2000000 in
set_option maxRecDepth 100000 in
theorem block_any (g:Nat) (h:Nat→BitVec 32) (r n:Value) (ba:Option Addr) (cap:Nat) (m:List UInt8) (w:World) (hg:Blk w g (vA 74 (hcs h r n)) 270) (hm:BytesAt w ba m) (hlen:m.length=64) (hcap:64≤cap) (hmax:cap≤maxLen)
  (hap:∀b o,ba=some ⟨b,o,none⟩→b≠g):
  Calls Tryz.prog 198 #[.pointer (some ⟨g,0,none⟩),.slice ba 64 cap] w fun e w'=>e= .returned (.tuple #[])∧Blk w' g (vA 74 (hcs (cmp h (wd m 0)) r n)) 270∧w.grownBy w' (some g):=by
 unfold maxLen at hmax
 have hz1:=zero_run zero64
 obtain ⟨b,o,hba,hc⟩:=hm.at (by omega)
 subst hba
 have hbg:=hap b o rfl
 have HC:=Lib.hid hc
 have HL:=Lib.hid hlen
 clear hap hm hc hlen
 go_enter Tryz.func198,Tryz.ntmps198
 go_wp2_with fail
 clear hz1
 obtain ⟨H,hH⟩:∃H,H=w.heap.size:=⟨_,rfl⟩
 have hgH:g<H:=by rw [hH];exact hg.lt
 refine wp_forget (fun W0=>BkIn w g H h r n (fun _=>0#32) W0) ⟨hg.alloc _,by rw [hH];exact Blk.new _ _ _,only_alloc (World.grownBy.refl _ _) _⟩ ?_
 rw [←hH]
 have HH:=Lib.hid hH
 clear hH hg
 rintro w0 hI
 go_loopg [19] 16 (Bk1 w g H h r n m)
 case atStart=>exact ⟨0,by omega,rfl,hI⟩
 case round=>
  clear hI
  obtain ⟨t,hf,rfl,hI⟩:=hrel
  by_cases ht:t<16
  ·have tt:decide ((t:Int)<16)=true:=by simp;omega
   have HF:=Lib.hid hf
   clear hf
   obtain ⟨g0,rfl⟩:∃g:Nat,g=gk:=⟨_,rfl⟩
   obtain ⟨p,hp⟩:∃p,p=4*t:=⟨_,rfl⟩
   have hpI:4*(t:Int)=(p:Int):=by omega
   have hp1:(p:Int)+4≤(cap:Int):=by omega
   have hp2:(p:Int)≤60:=by omega
   have HP:=Lib.hid hp
   clear hp
   go_wp2_with fail
   go_loopg [30] 4 (Bk2 w g H h r n m t)
   case atStart=>exact ⟨0,by omega,rfl,⟨hI.hash,hI.words.ofV fun j _=>by
    by_cases e:j=t
    ·subst e;rw [if_neg (by omega),if_pos rfl];rfl
    ·rw [if_neg e],hI.only⟩⟩
   case round=>
    clear hI
    obtain ⟨q,hf,rfl,hI⟩:=hrel
    by_cases hq:q<4
    ·have tq:decide ((q:Int)<4)=true:=by simp;omega
     have hqI:(q:Int)<4:=by omega
     have hpq:p+q<m.length:=by have:=HL.out;omega
     have c0:wr.cell? ⟨b,o+p+q,none⟩=some (.int .u8 (U8 m[p+q])):=by
      rw [Nat.add_assoc]
      exact hI.only.cell (HC.out (p+q) hpq) (by simpa using hbg)
     have c1:=hI.words.atV (show t<64 by omega) (show wv (if t=t then wpart m (4*t) q else if t<t then wd m 0 t else 0#32)= .int .u32 (U32 (wpart m (4*t) q)) by rw [if_pos rfl];rfl)
     have r3:=hI.words.free
     have r4:=hI.words.lt
     have htI:(t:Int)<64:=by omega
     have HF2:=Lib.hid hf
     clear hf
     go_wp2_with fail
     clear c0 c1 r3
     go_roundg (gk-1)
     case rel=>
      have hf:=HF2.out
      refine ⟨q+1,by omega,by go_num,hI.hash.other _ _ (by show g≠H;omega),?_,only_new hI.only (by rw [←HH.out];omega) _⟩
      refine (hI.words.setV (by omega) _).ofV fun j _=> ?_
      by_cases e:j=t
      ·subst e
       rw [if_pos rfl,if_pos rfl,word_step,wpart,byt,List.getD_eq_getElem?_getD,←HP.out,List.getElem?_eq_getElem hpq]
       rfl
      ·rw [if_neg e,if_neg e,if_neg e]
     case measure=>have hf:=HF2.out;omega
    ·obtain rfl:q=4:=by omega
     have tq:decide (((4:Nat):Int)<4)=false:=by simp
     clear hf
     go_wp2_with fail
     go_roundg (g0-1)
     case rel=>
      have hf:=HF.out
      exact ⟨t+1,by omega,by go_num,hI.hash,hI.words.ofV fun j _=>by
       by_cases e:j=t
       ·subst e;rw [if_pos rfl,if_pos (by omega),wd,Nat.zero_add]
       ·rw [if_neg e]
        by_cases e2:j<t
        ·rw [if_pos e2,if_pos (by omega)]
        ·rw [if_neg e2,if_neg (by omega)],hI.only⟩
     case measure=>have hf:=HF.out;omega
  ·obtain rfl:t=16:=by omega
   have tt:decide (((16:Nat):Int)<16)=false:=by simp
   clear hf
   obtain ⟨w00,hw00⟩:∃u:Nat→BitVec 32,u=fun j=>if j<16 then wd m 0 j else 0#32:=⟨_,rfl⟩
   rw [←hw00] at hI
   go_wp2_with fail
   go_loopg [9] 48 (Bk3 w g H h r n w00)
   case atStart=>exact ⟨16,0,by omega,by omega,rfl,hI⟩
   case round=>
    clear hI
    obtain ⟨t,k,hf,hk,rfl,hI⟩:=hrel
    by_cases ht:t<64
    ·have tt:decide ((t:Int)<64)=true:=by simp;omega
     have HF:=Lib.hid hf
     clear hf
     obtain ⟨k1,hk1⟩:∃q,q=k+1:=⟨_,rfl⟩
     obtain ⟨k9,hk9⟩:∃q,q=k+9:=⟨_,rfl⟩
     obtain ⟨k14,hk14⟩:∃q,q=k+14:=⟨_,rfl⟩
     have e1:IntKind.i64.wrap ((t:Int)-15)=(k1:Int):=by rw [IntWalk.i64_in _ (by omega)];omega
     have e2:IntKind.i64.wrap ((t:Int)-2)=(k14:Int):=by rw [IntWalk.i64_in _ (by omega)];omega
     have e3:IntKind.i64.wrap ((t:Int)-16)=(k:Int):=by rw [IntWalk.i64_in _ (by omega)];omega
     have e4:IntKind.i64.wrap ((t:Int)-7)=(k9:Int):=by rw [IntWalk.i64_in _ (by omega)];omega
     have i1:(k1:Int)<64:=by omega
     have i2:(k14:Int)<64:=by omega
     have i3:(k:Int)<64:=by omega
     have i4:(k9:Int)<64:=by omega
     have i5:(t:Int)<64:=by omega
     obtain ⟨u,hu⟩:∃u,u=wx w00 k:=⟨_,rfl⟩
     rw [←hu] at hI
     have C1:∀W,Old wr.drew W→W.cell? ⟨H,k1,none⟩=some (.int .u32 (U32 (u k1))):=fun W h=>(hI.words.drew.old h).atV (by omega) rfl
     have C2:∀W,Old wr.drew W→W.cell? ⟨H,k14,none⟩=some (.int .u32 (U32 (u k14))):=fun W h=>(hI.words.drew.old h).atV (by omega) rfl
     have D3:∀W,Old wr.drew.drew W→W.cell? ⟨H,k,none⟩=some (.int .u32 (U32 (u k))):=fun W h=>(hI.words.drew.drew.old h).atV (by omega) rfl
     have D4:∀W,Old wr.drew.drew W→W.cell? ⟨H,k9,none⟩=some (.int .u32 (U32 (u k9))):=fun W h=>(hI.words.drew.drew.old h).atV (by omega) rfl
     have HU:=Lib.hid hu
     have HK:=Lib.hid hk
     have HK1:=Lib.hid hk1
     have HK9:=Lib.hid hk9
     have HK14:=Lib.hid hk14
     clear hu hk hk1 hk9 hk14
     go_wp2_with fail
     refine wp_region_old (0::1::2::3::4::5::6::7::8::9::[]) (by kernel_rfl) (by kernel_rfl) (fun c a d v w h=>by cases d<;>exact h) ?_
     repeat (first|(refine lex_skip rfl (by rfl) ?_;simp only [Act.put,List.setIfInBounds_toArray,List.set])|(refine lex_quiet (v:= ?_) rfl rfl (by rfl) ?_ ?_;rotate_left;(intro W hW;go_simp);(try with_reducible rfl);simp only [Act.put,List.setIfInBounds_toArray,List.set]))
     refine lex_nil ?_
     clear C1 C2
     go_wp2_with fail
     refine wp_region_treeR true Old Old.refl Old.trans (.step 0 (.step 1 (.step 2 (.step 3 (.step 4 (.step 5 (.step 6 (.step 7 (.step 8 (.step 9 (.step 10 (.step 11 (.step 13 (.step 14 (.step 17 (.step 18 (.step 21 (.step 22 (.step 24 (.step 25 (.step 28 (.step 29 (.step 12 (.step 15 (.step 16 (.step 19 (.step 20 (.step 23 (.step 26 (.step 27 (.step 30 (.step 31 (.step 32 (.step 33 .done)))))))))))))))))))))))))))))))))) (by kernel_rfl) (by kernel_rfl) (fun c a d v w h=>by cases d<;>exact h) ?_
     repeat (first|(refine tree_skip rfl (by rfl) ?_;simp only [Act.put,List.setIfInBounds_toArray,List.set])|(refine tree_quiet (v:= ?_) rfl rfl (by rfl) ?_ ?_;rotate_left;(intro W hW;go_simp);(try with_reducible rfl);simp only [Act.put,List.setIfInBounds_toArray,List.set]))
     refine tree_loud rfl rfl (by rfl) (fun K hK=> ?_);go_wp2_with fail
     refine (rotr_of (u k1) 7 7 rfl (by decide) _).mono ?_
     rintro e w' ⟨rfl,rfl⟩
     go_wp2_with fail
     refine hK _ _ (Old.refl _) ?_
     clear hK K
     repeat (first|(refine tree_skip rfl (by rfl) ?_;simp only [Act.put,List.setIfInBounds_toArray,List.set])|(refine tree_quiet (v:= ?_) rfl rfl (by rfl) ?_ ?_;rotate_left;(intro W hW;go_simp);(try with_reducible rfl);simp only [Act.put,List.setIfInBounds_toArray,List.set]))
     refine tree_loud rfl rfl (by rfl) (fun K hK=> ?_);go_wp2_with fail
     refine (rotr_of (u k1) 18 18 rfl (by decide) _).mono ?_
     rintro e w' ⟨rfl,rfl⟩
     go_wp2_with fail
     refine hK _ _ (Old.refl _) ?_
     clear hK K
     repeat (first|(refine tree_skip rfl (by rfl) ?_;simp only [Act.put,List.setIfInBounds_toArray,List.set])|(refine tree_quiet (v:= ?_) rfl rfl (by rfl) ?_ ?_;rotate_left;(intro W hW;go_simp);(try with_reducible rfl);simp only [Act.put,List.setIfInBounds_toArray,List.set]))
     refine tree_loud rfl rfl (by rfl) (fun K hK=> ?_);go_wp2_with fail
     refine (rotr_of (u k14) 17 17 rfl (by decide) _).mono ?_
     rintro e w' ⟨rfl,rfl⟩
     go_wp2_with fail
     refine hK _ _ (Old.refl _) ?_
     clear hK K
     repeat (first|(refine tree_skip rfl (by rfl) ?_;simp only [Act.put,List.setIfInBounds_toArray,List.set])|(refine tree_quiet (v:= ?_) rfl rfl (by rfl) ?_ ?_;rotate_left;(intro W hW;go_simp);(try with_reducible rfl);simp only [Act.put,List.setIfInBounds_toArray,List.set]))
     refine tree_loud rfl rfl (by rfl) (fun K hK=> ?_);go_wp2_with fail
     refine (rotr_of (u k14) 19 19 rfl (by decide) _).mono ?_
     rintro e w' ⟨rfl,rfl⟩
     go_wp2_with fail
     refine hK _ _ (Old.refl _) ?_
     clear hK K
     repeat (first|(refine tree_skip rfl (by rfl) ?_;simp only [Act.put,List.setIfInBounds_toArray,List.set])|(refine tree_quiet (v:= ?_) rfl rfl (by rfl) ?_ ?_;rotate_left;(intro W hW;go_simp);(try with_reducible rfl);simp only [Act.put,List.setIfInBounds_toArray,List.set]))
     have hd:=hI.words.drew.drew
     have f3:=hd.free
     have c3:=hd.atV (show t<64 by omega) rfl
     refine tree_store rfl rfl (by rfl) (fun K hK=> ?_);go_wp2_with fail;refine tree_done ?_
     clear f3 c3
     go_wp2_with fail
     go_roundg (gk-1)
     case rel=>
      have hf:=HF.out
      have hk:=HK.out
      refine ⟨t+1,k+1,by omega,by omega,by go_num,hI.hash.drew.drew.other _ _ (by show g≠H;omega),?_,only_new (only_drew (only_drew hI.only)) (by rw [←HH.out];omega) _⟩
      refine (hd.setV (by omega) _).ofV fun j _=> ?_
      simp only [wx]
      rw [←HU.out,←hk,show t-16=k by omega,show t-7=k9 by have:=HK9.out;omega,show t-15=k1 by have:=HK1.out;omega,show t-2=k14 by have:=HK14.out;omega]
      by_cases e:j=t
      ·rw [if_pos e,if_pos e];rfl
      ·rw [if_neg e,if_neg e]
     case measure=>have hf:=HF.out;omega
    ·obtain rfl:t=64:=by omega
     have tt:decide (((64:Nat):Int)<64)=false:=by simp
     obtain rfl:k=48:=by omega
     clear hf hk
     obtain ⟨u,hu⟩:∃u,u=wx w00 48:=⟨_,rfl⟩
     rw [←hu] at hI
     have HU:=Lib.hid hu
     have HW:=Lib.hid hw00
     clear hu hw00
     have hhash:=hI.hash
     have hp1:((vA 74 (hcs h r n)).toList.drop 0).take 8=vL 8 fun j=>wv (h j):=by
      rw [vA_part _ (by omega)]
      exact vL_eq fun j hj=>by rw [Nat.zero_add,hcs_h _ _ _ hj];rfl
     have hp2:((vA 74 (hcs h r n)).toList.drop 10).take 64=vL 64 fun j=>wv (kwd j):=by
      rw [vA_part _ (by omega)]
      exact vL_eq fun j hj=>by rw [hcs_k _ _ _ hj];rfl
     have HP1:=Lib.hid hp1
     have HP2:=Lib.hid hp2
     clear hp1 hp2
     go_upto_region 17 with (first|refine wpList_load_part rfl 267 agg8 _ rfl rfl hhash HP1.out (vL_length _ _) ?_|refine wpList_store_blk rfl 267 agg8 (.tmp 12) _ (cells:=vA 8 fun j=>wv (h j)) rfl rfl rfl (Blk.new _ _ _) (vA_size _ _) rfl (vA_one fun _ _=>rfl) ?_)
     obtain ⟨V,hV⟩:∃V,V=wr.heap.size:=⟨_,rfl⟩
     have hHV:H<V:=by have:=hI.words.lt;omega
     have hV0:=Blk.new wr (vA 8 fun _=> .int .u32 0) 267
     rw [←hV] at hV0⊢
     refine wp_forget (fun W0=>BkIn w g H h r n u W0∧Blk W0 V (vA 8 fun j=>wv (h j)) 267) ⟨⟨(hI.hash.alloc _).setRow_other _ _ (by omega),(hI.words.alloc _).setRow_other _ _ (by omega),only_newRow (only_alloc hI.only _) (by rw [←HH.out];omega) _⟩,hV0.setRow _⟩ ?_
     clear hI hhash hV hV0
     rintro w5 ⟨hI,hV⟩
     have hhash:=hI.hash
     go_wp2_with (refine wpList_load_part rfl 268 agg64 _ rfl rfl hhash HP2.out (vL_length _ _) ?_)
     clear hhash
     go_loopg [98] 64 (Bk4 w g H V h r n u)
     case atStart=>exact ⟨0,by omega,rfl,hI,hV⟩
     case round=>
      clear hI hV
      obtain ⟨t,hf,rfl,hI,hV⟩:=hrel
      by_cases ht:t<64
      ·have tt:decide ((t:Int)<64)=true:=by simp;omega
       have htI:(t:Int)<64:=by omega
       have HF:=Lib.hid hf
       clear hf
       obtain ⟨v,hv⟩:∃v,v=vs h u t:=⟨_,rfl⟩
       rw [←hv] at hV
       have HV:=Lib.hid hv
       clear hv
       have hix:∀W,(Instr.index 268 (.agg (vL 64 fun j=>wv (kwd j)).toArray) (.int .i64 (t:Int))).run Tryz.prog W= .ok (.int .u32 (U32 (kwd t))) W:=idx64 (fun j=>wv (kwd j)) t ht
       have C0:∀W,Old wr.drew W→W.cell? ⟨V,0,none⟩=some (.int .u32 (U32 (v 0))):=fun W h=>(hV.drew.old h).atV (by omega) rfl
       have C1:∀W,Old wr.drew W→W.cell? ⟨V,1,none⟩=some (.int .u32 (U32 (v 1))):=fun W h=>(hV.drew.old h).atV (by omega) rfl
       have C2:∀W,Old wr.drew W→W.cell? ⟨V,2,none⟩=some (.int .u32 (U32 (v 2))):=fun W h=>(hV.drew.old h).atV (by omega) rfl
       have C3:∀W,Old wr.drew W→W.cell? ⟨V,3,none⟩=some (.int .u32 (U32 (v 3))):=fun W h=>(hV.drew.old h).atV (by omega) rfl
       have C4:∀W,Old wr.drew W→W.cell? ⟨V,4,none⟩=some (.int .u32 (U32 (v 4))):=fun W h=>(hV.drew.old h).atV (by omega) rfl
       have C5:∀W,Old wr.drew W→W.cell? ⟨V,5,none⟩=some (.int .u32 (U32 (v 5))):=fun W h=>(hV.drew.old h).atV (by omega) rfl
       have C6:∀W,Old wr.drew W→W.cell? ⟨V,6,none⟩=some (.int .u32 (U32 (v 6))):=fun W h=>(hV.drew.old h).atV (by omega) rfl
       have C7:∀W,Old wr.drew W→W.cell? ⟨V,7,none⟩=some (.int .u32 (U32 (v 7))):=fun W h=>(hV.drew.old h).atV (by omega) rfl
       have CW:∀W,Old wr.drew W→W.cell? ⟨H,t,none⟩=some (.int .u32 (U32 (u t))):=fun W h=>(hI.words.drew.old h).atV ht rfl
       have D0:∀W,Old wr.drew.drew W→W.cell? ⟨V,0,none⟩=some (.int .u32 (U32 (v 0))):=fun W h=>(hV.drew.drew.old h).atV (by omega) rfl
       have D1:∀W,Old wr.drew.drew W→W.cell? ⟨V,1,none⟩=some (.int .u32 (U32 (v 1))):=fun W h=>(hV.drew.drew.old h).atV (by omega) rfl
       have D2:∀W,Old wr.drew.drew W→W.cell? ⟨V,2,none⟩=some (.int .u32 (U32 (v 2))):=fun W h=>(hV.drew.drew.old h).atV (by omega) rfl
       go_wp2_with fail
       clear hix
       refine wp_region_old (0::1::2::3::4::6::7::8::11::12::13::17::18::19::20::21::22::23::24::25::26::27::28::30::32::33::34::5::9::10::14::15::16::29::31::35::36::[]) (by kernel_rfl) (by kernel_rfl) (fun c a d v w h=>by cases d<;>exact h) ?_
       repeat (first|(refine lex_skip rfl (by rfl) ?_;simp only [Act.put,List.setIfInBounds_toArray,List.set])|(refine lex_quiet (v:= ?_) rfl rfl (by rfl) ?_ ?_;rotate_left;(intro W hW;go_simp);(try with_reducible rfl);simp only [Act.put,List.setIfInBounds_toArray,List.set]))
       refine lex_loud rfl rfl (by rfl) (fun K hK=> ?_);go_wp2_with fail
       refine (rotr_of (v 4) 6 6 rfl (by decide) _).mono ?_
       rintro e w' ⟨rfl,rfl⟩
       go_wp2_with fail
       refine hK _ _ (Old.refl _) ?_
       clear hK K
       repeat (first|(refine lex_skip rfl (by rfl) ?_;simp only [Act.put,List.setIfInBounds_toArray,List.set])|(refine lex_quiet (v:= ?_) rfl rfl (by rfl) ?_ ?_;rotate_left;(intro W hW;go_simp);(try with_reducible rfl);simp only [Act.put,List.setIfInBounds_toArray,List.set]))
       refine lex_loud rfl rfl (by rfl) (fun K hK=> ?_);go_wp2_with fail
       refine (rotr_of (v 4) 11 11 rfl (by decide) _).mono ?_
       rintro e w' ⟨rfl,rfl⟩
       go_wp2_with fail
       refine hK _ _ (Old.refl _) ?_
       clear hK K
       repeat (first|(refine lex_skip rfl (by rfl) ?_;simp only [Act.put,List.setIfInBounds_toArray,List.set])|(refine lex_quiet (v:= ?_) rfl rfl (by rfl) ?_ ?_;rotate_left;(intro W hW;go_simp);(try with_reducible rfl);simp only [Act.put,List.setIfInBounds_toArray,List.set]))
       refine lex_loud rfl rfl (by rfl) (fun K hK=> ?_);go_wp2_with fail
       refine (rotr_of (v 4) 25 25 rfl (by decide) _).mono ?_
       rintro e w' ⟨rfl,rfl⟩
       go_wp2_with fail
       refine hK _ _ (Old.refl _) ?_
       clear hK K
       repeat (first|(refine lex_skip rfl (by rfl) ?_;simp only [Act.put,List.setIfInBounds_toArray,List.set])|(refine lex_quiet (v:= ?_) rfl rfl (by rfl) ?_ ?_;rotate_left;(intro W hW;go_simp);(try with_reducible rfl);simp only [Act.put,List.setIfInBounds_toArray,List.set]))
       refine lex_nil ?_
       clear C0 C1 C2 C3 C4 C5 C6 C7 CW
       go_wp2_with fail
       refine wp_region_old (0::1::2::4::5::6::9::10::11::14::15::16::17::18::19::20::21::22::23::24::25::26::27::28::29::30::3::7::8::12::13::31::32::[]) (by kernel_rfl) (by kernel_rfl) (fun c a d v w h=>by cases d<;>exact h) ?_
       repeat (first|(refine lex_skip rfl (by rfl) ?_;simp only [Act.put,List.setIfInBounds_toArray,List.set])|(refine lex_quiet (v:= ?_) rfl rfl (by rfl) ?_ ?_;rotate_left;(intro W hW;go_simp);(try with_reducible rfl);simp only [Act.put,List.setIfInBounds_toArray,List.set]))
       refine lex_loud rfl rfl (by rfl) (fun K hK=> ?_);go_wp2_with fail
       refine (rotr_of (v 0) 2 2 rfl (by decide) _).mono ?_
       rintro e w' ⟨rfl,rfl⟩
       go_wp2_with fail
       refine hK _ _ (Old.refl _) ?_
       clear hK K
       repeat (first|(refine lex_skip rfl (by rfl) ?_;simp only [Act.put,List.setIfInBounds_toArray,List.set])|(refine lex_quiet (v:= ?_) rfl rfl (by rfl) ?_ ?_;rotate_left;(intro W hW;go_simp);(try with_reducible rfl);simp only [Act.put,List.setIfInBounds_toArray,List.set]))
       refine lex_loud rfl rfl (by rfl) (fun K hK=> ?_);go_wp2_with fail
       refine (rotr_of (v 0) 13 13 rfl (by decide) _).mono ?_
       rintro e w' ⟨rfl,rfl⟩
       go_wp2_with fail
       refine hK _ _ (Old.refl _) ?_
       clear hK K
       repeat (first|(refine lex_skip rfl (by rfl) ?_;simp only [Act.put,List.setIfInBounds_toArray,List.set])|(refine lex_quiet (v:= ?_) rfl rfl (by rfl) ?_ ?_;rotate_left;(intro W hW;go_simp);(try with_reducible rfl);simp only [Act.put,List.setIfInBounds_toArray,List.set]))
       refine lex_loud rfl rfl (by rfl) (fun K hK=> ?_);go_wp2_with fail
       refine (rotr_of (v 0) 22 22 rfl (by decide) _).mono ?_
       rintro e w' ⟨rfl,rfl⟩
       go_wp2_with fail
       refine hK _ _ (Old.refl _) ?_
       clear hK K
       repeat (first|(refine lex_skip rfl (by rfl) ?_;simp only [Act.put,List.setIfInBounds_toArray,List.set])|(refine lex_quiet (v:= ?_) rfl rfl (by rfl) ?_ ?_;rotate_left;(intro W hW;go_simp);(try with_reducible rfl);simp only [Act.put,List.setIfInBounds_toArray,List.set]))
       refine lex_nil ?_
       clear D0 D1 D2
       go_wp2_with fail
       (try clear h)
       have q1:=cut_1 V
       have q2:=cut_7 V
       refine wp_region_treeB V (.step 0 (.step 1 (.step 2 .done))) (by kernel_rfl) (by kernel_rfl) (fun c a d v w h=>by cases d<;>exact h) ?_
       repeat (first|(refine tree_skip rfl (by rfl) ?_;simp only [Act.put,List.setIfInBounds_toArray,List.set])|(refine tree_quiet (v:= ?_) rfl rfl (by rfl) ?_ ?_;rotate_left;(intro W hW;go_simp);(try with_reducible rfl);simp only [Act.put,List.setIfInBounds_toArray,List.set]))
       refine tree_loud rfl rfl (by rfl) (fun K hK=> ?_)
       refine wp_copy_row (.tmp 170) (.tmp 171) 271 271 rfl Tryz.underlying271 u32Info rfl rfl hV.drew.drew.drew (cs:=vL 7 fun j=>wv (v j)) (by rw [vL_length];rfl) (fun j x hx=> ?_) (by rw [vL_length,vA_size];omega) (by intro x hx;obtain ⟨_,_,rfl⟩:=List.mem_map.1 hx;rfl) ?_
       ·have hj:j<7:=by have:=(List.getElem?_eq_some_iff.1 hx).1;rwa [vL_length] at this
        rw [vL_at _ hj] at hx
        rw [Addr.add_mid,←hx]
        exact hV.drew.drew.drew.atV (by omega) (by rw [Nat.zero_add])
       refine hK _ _ (But.setRow _ _) ?_
       clear hK K q1 q2
       refine tree_done ?_
       have hsp:splice (vA 8 fun j=>wv (v j)) 1 (vL 7 fun j=>wv (v j)).toArray=vA 8 fun j=>wv (if j=0 then v 0 else v (j-1)):=by
        rw [show (vL 7 fun j=>wv (v j)).toArray=vA 7 fun j=>wv (v j) from rfl,vA_splice _ _ (by omega)]
        refine vA_eq fun j hj=> ?_
        by_cases e:j=0
        ·subst e;rfl
        ·rw [if_pos ⟨by omega,by omega⟩,if_neg e]
       rw [hsp]
       clear hsp
       refine g_forget (fun W0=>BkIn w g H h r n u W0∧Blk W0 V (vA 8 fun j=>wv (if j=0 then v 0 else v (j-1))) 267) ⟨⟨(hI.hash.drew.drew.drew).setRow_other _ _ (by omega),(hI.words.drew.drew.drew).setRow_other _ _ (by omega),only_newRow (only_drew (only_drew (only_drew hI.only))) (by rw [←HH.out];omega) _⟩,hV.drew.drew.drew.setRow _⟩ ?_
       clear hI hV
       rintro w6 ⟨hI,hV⟩
       have c4:w6.cell? ⟨V,4,none⟩=some (.int .u32 (U32 (v 3))):=hV.atV (by omega) rfl
       have c0:w6.cell? ⟨V,0,none⟩=some (.int .u32 (U32 (v 0))):=hV.atV (by omega) rfl
       have f0:=hV.free
       go_wp2_with fail
       clear c4 c0 f0
       go_roundg (gk-1)
       case rel=>
        have hf:=HF.out
        refine ⟨t+1,by omega,by go_num,⟨(hI.hash.other _ _ (by show g≠V;omega)).other _ _ (by show g≠V;omega),(hI.words.other _ _ (by show H≠V;omega)).other _ _ (by show H≠V;omega),only_new (only_new hI.only (by rw [←HH.out];omega) _) (by rw [←HH.out];omega) _⟩,?_⟩
        refine ((hV.setV (by omega) _).setV (by omega) _).ofV fun j hj=> ?_
        rw [vs,←HV.out]
        unfold rd uu xx
        by_cases e0:j=0
        ·subst e0;rfl
        ·by_cases e4:j=4
         ·subst e4;rfl
         ·simp only [if_neg e0,if_neg e4]
       case measure=>have hf:=HF.out;omega
      ·obtain rfl:t=64:=by omega
       have tt:decide (((64:Nat):Int)<64)=false:=by simp
       clear hf
       go_wp2_with (refine wpList_load_blk rfl 267 agg8 _ rfl rfl hV (vA_size _ _) ?_)
       have hR:Bk5 w g h r n u 8 (.int .i64 0) wr:=⟨0,by omega,rfl,hI.hash,hI.only⟩
       clear hI hV
       go_loopg [184] 8 (Bk5 w g h r n u)
       case atStart=>exact hR
       case round=>
        clear hR
        obtain ⟨t,hf,rfl,hB,ho⟩:=hrel
        by_cases ht:t<8
        ·have tt:decide ((t:Int)<8)=true:=by simp;omega
         have htI:(t:Int)<8:=by omega
         have HF:=Lib.hid hf
         clear hf
         have hix:∀W,(Instr.index 267 (.agg (vA 8 fun j=>wv (vs h u 64 j))) (.int .i64 (t:Int))).run Tryz.prog W= .ok (.int .u32 (U32 (vs h u 64 t))) W:=idx8 (fun j=>wv (vs h u 64 j)) t ht
         have C1:∀W,Old wr.drew W→W.cell? ⟨g,t,none⟩=some (.int .u32 (U32 (h t))):=fun W hW=>(hB.drew.old hW).atV (by omega) (by rw [hcs_h _ _ _ ht,if_neg (by omega)])
         go_wp2_with fail
         clear hix
         refine wp_region_treeR true Old Old.refl Old.trans (.step 0 (.step 1 (.step 2 (.step 3 (.step 4 (.step 5 (.step 6 (.step 7 (.step 8 (.step 9 (.step 10 (.step 11 .done)))))))))))) (by kernel_rfl) (by kernel_rfl) (fun c a d v w h=>by cases d<;>exact h) ?_
         repeat (first|(refine tree_skip rfl (by rfl) ?_;simp only [Act.put,List.setIfInBounds_toArray,List.set])|(refine tree_quiet (v:= ?_) rfl rfl (by rfl) ?_ ?_;rotate_left;(intro W hW;go_simp);(try with_reducible rfl);simp only [Act.put,List.setIfInBounds_toArray,List.set]))
         have hd:=hB.drew
         have f3:=hd.free
         have c3:=hd.atV (show t<74 by omega) rfl
         refine tree_store rfl rfl (by rfl) (fun K hK=> ?_);go_wp2_with fail;refine tree_done ?_
         clear f3 c3
         go_wp2_with fail
         go_roundg (gk-1)
         case rel=>
          have hf:=HF.out
          refine ⟨t+1,by omega,by go_num,?_,only_setCell (only_drew ho) t _⟩
          refine (hd.setV (by omega) _).ofV fun j _=> ?_
          by_cases e:j=t
          ·subst e;rw [if_pos rfl,hcs_h _ _ _ ht,if_pos (by omega)]
          ·rw [if_neg e]
           unfold hcs
           by_cases e2:j<8
           ·rw [if_pos e2,if_pos e2]
            show wv (if j<t then h j+vs h u 64 j else h j)=wv (if j<t+1 then h j+vs h u 64 j else h j)
            by_cases e3:j<t
            ·rw [if_pos e3,if_pos (by omega)]
            ·rw [if_neg e3,if_neg (by omega)]
           ·rw [if_neg e2,if_neg e2]
         case measure=>have hf:=HF.out;omega
        ·obtain rfl:t=8:=by omega
         have tt:decide (((8:Nat):Int)<8)=false:=by simp
         clear hf
         go_wp2_with fail
         go_end0
         refine ⟨rfl,hB.ofV fun j _=> ?_,ho⟩
         unfold hcs
         by_cases e2:j<8
         ·rw [if_pos e2,if_pos e2]
          show wv (if j<8 then h j+vs h u 64 j else h j)=wv (cmp h (wd m 0) j)
          rw [if_pos e2,cmp_of (w':=wd m 0) HU.out (fun t ht=>(congrFun HW.out t).trans (if_pos ht)) j e2]
         ·rw [if_neg e2,if_neg e2]
end
end Go.Proofs.YtioigihakjlopaaGreat
