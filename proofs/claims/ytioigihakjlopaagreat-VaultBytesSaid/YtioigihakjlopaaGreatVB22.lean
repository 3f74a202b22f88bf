/- Texts put together and cut to what is used: AesReady, AesBlock. -/
import Derived.Test.YtioigihakjlopaaGreatVB21
namespace Go.Proofs.YtioigihakjlopaaGreat
set_option linter.unusedVariables false
set_option linter.unusedSimpArgs false
section
open Go.RowKit
attribute [local go_sem] bits_xor_B8 bits_and_B8 bits_or_B8 ofInt_B8
def bn (k:Nat):BitVec 8:=BitVec.ofNat 8 k
theorem bn_toNat (a:BitVec 8):bn a.toNat=a:=by simp [bn]
theorem toNat_bn {k:Nat} (h:k<256):(bn k).toNat=k:=by simp [bn];omega
def cp (k m:Nat) (key:Nat→BitVec 8) (j:Nat):BitVec 8:=
 if j<256 then (if j<k then bx (bn j) else 0#8)
 else if j<512 then (if (un (bn (j-256))).toNat<k then un (bn (j-256)) else 0#8)
 else if j<512+m then rk key ((j-512)/16) ((j-512)%16) else 0#8
def cp1 (k:Nat) (key:Nat→BitVec 8) (j:Nat):BitVec 8:=if j=k then bx (bn k) else cp k 0 key j
theorem cp_step (k:Nat) (hk:k<256) (key:Nat→BitVec 8):∀j,j<688→(if j=256+(bx (bn k)).toNat then bn k else cp1 k key j)=cp (k+1) 0 key j:=fun j hj=>by
 have hb:(bx (bn k)).toNat<256:=(bx (bn k)).isLt
 unfold cp1 cp
 by_cases h1:j<256
 ·rw [if_neg (by omega)]
  by_cases h2:j=k
  ·subst h2;rw [if_pos rfl,if_pos h1,if_pos (by omega)]
  ·rw [if_neg h2,if_pos h1,if_pos h1]
   by_cases h3:j<k
   ·rw [if_pos h3,if_pos (by omega)]
   ·rw [if_neg h3,if_neg (by omega)]
 ·by_cases h2:j<512
  ·rw [if_neg (show ¬j=k by omega),if_neg h1,if_pos h2,if_neg h1,if_pos h2]
   have key1:j=256+(bx (bn k)).toNat↔un (bn (j-256))=bn k:=by
    constructor
    ·intro e;rw [e,Nat.add_sub_cancel_left,bn_toNat,un_bx]
    ·intro e
     have:=congrArg bx e
     rw [bx_un] at this
     have h3:=congrArg BitVec.toNat this
     rw [toNat_bn (by omega)] at h3
     omega
   by_cases e:j=256+(bx (bn k)).toNat
   ·have e2:=key1.1 e
    rw [if_pos e,e2,toNat_bn hk,if_pos (by omega)]
   ·rw [if_neg e]
    have e2:¬(un (bn (j-256))).toNat=k:=fun q=>e (key1.2 (BitVec.eq_of_toNat_eq (by rw [q,toNat_bn hk])))
    by_cases h3:(un (bn (j-256))).toNat<k
    ·rw [if_pos h3,if_pos (by omega)]
    ·rw [if_neg h3,if_neg (by omega)]
  ·simp [h1,h2,show ¬j=256+(bx (bn k)).toNat by omega,show ¬j=k by omega]
theorem cp_zero (key:Nat→BitVec 8) (j:Nat):cp 0 0 key j=0#8:=by
 unfold cp
 by_cases h1:j<256<;>by_cases h2:j<512<;>simp [h1,h2]
def cph (key:Nat→BitVec 8):Nat→BitVec 8:=cp 256 176 key
theorem cph_box (key:Nat→BitVec 8) (i:Nat) (h:i<256):cph key i=bx (bn i):=by simp [cph,cp,h]
theorem cph_key (key:Nat→BitVec 8) (r i:Nat) (hr:r<11) (h:i<16):cph key (512+r*16+i)=rk key r i:=by
 simp only [cph,cp]
 rw [if_neg (by omega),if_neg (by omega),if_pos (by omega),show (512+r*16+i-512)/16=r by omega,show (512+r*16+i-512)%16=i by omega]
theorem cipher0:Tryz.prog.built 233 []=some (fA 688 fun _=>0#8):=by kernel_rfl
theorem fA_splice {n o m:Nat} (s t:Nat→BitVec 8) (h:o+m≤n):splice (fA n s) o (fA m t)=fA n fun j=>if o≤j∧j<o+m then t (j-o) else s j:=by
 apply Array.ext_getElem?
 intro j
 simp only [splice,fA_size]
 have hl:(List.take o (fA n s).toList++(fA m t).toList++List.drop (o+m) (fA n s).toList).toArray[j]? =(List.take o (fA n s).toList++((fA m t).toList++List.drop (o+m) (fA n s).toList))[j]? :=by simp
 rw [hl]
 by_cases h1:j<o
 ·rw [List.getElem?_append_left (by simp [fA_size];omega),List.getElem?_take_of_lt h1]
  have:=fA_at s (show j<n by omega)
  rw [←Array.getElem?_toList] at this
  rw [this,fA_at _ (by omega),if_neg (by omega)]
 ·rw [List.getElem?_append_right (by simp [fA_size];omega)]
  have e:(List.take o (fA n s).toList).length=o:=by simp [fA_size];omega
  rw [e]
  by_cases h2:j<o+m
  ·rw [List.getElem?_append_left (by simp [fA_size];omega)]
   have:=fA_at t (show j-o<m by omega)
   rw [←Array.getElem?_toList] at this
   rw [this,fA_at _ (by omega),if_pos ⟨by omega,h2⟩]
  ·rw [List.getElem?_append_right (by simp [fA_size];omega),List.getElem?_drop]
   have e2:o+m+(j-o-(fA m t).toList.length)=j:=by simp [fA_size];omega
   rw [e2,Array.getElem?_toList]
   by_cases h3:j<n
   ·rw [fA_at _ h3,fA_at _ h3,if_neg (by omega)]
   ·rw [Array.getElem?_eq_none (by simp [fA_size];omega),Array.getElem?_eq_none (by simp [fA_size];omega)]
theorem cp_key0 (key:Nat→BitVec 8):∀j,j<688→(if 512≤j∧j<512+16 then key (j-512) else cp 256 0 key j)=cp 256 16 key j:=fun j hj=>by
 unfold cp
 by_cases h1:j<256
 ·simp [h1,show ¬512≤j by omega]
 ·by_cases h2:j<512
  ·simp [h1,h2,show ¬512≤j by omega]
  ·by_cases h3:j<512+16
   ·rw [if_pos ⟨by omega,h3⟩,if_neg h1,if_neg h2,if_pos h3,show (j-512)/16=0 by omega,rk,tb_at _ (by omega),show (j-512)%16=j-512 by omega]
   ·simp [h1,h2,h3]
def tw (r:BitVec 8) (w:Nat→BitVec 8) (k c:Nat):BitVec 8:=if c<k then nkc r w c ((k-1-c)/4) else nk0 r w c
theorem tw_step (r:BitVec 8) (w:Nat→BitVec 8) (k:Nat):∀c,c<4→(if c=k%4 then tw r w k (k%4)^^^w k else tw r w k c)=tw r w (k+1) c:=fun c hc=>by
 by_cases e:c=k%4
 ·rw [if_pos e,←e]
  unfold tw
  by_cases h:c<k
  ·rw [if_pos h,if_pos (by omega),show (k+1-1-c)/4=(k-1-c)/4+1 by omega,nkc,show 4*((k-1-c)/4+1)+c=k by omega]
  ·rw [if_neg h,if_pos (by omega),show (k+1-1-c)/4=0 by omega,nkc,show c=k by omega]
 ·rw [if_neg e]
  unfold tw
  by_cases h:c<k
  ·rw [if_pos h,if_pos (by omega),show (k+1-1-c)/4=(k-1-c)/4 by omega]
  ·rw [if_neg h,if_neg (by omega)]
theorem tw_key (key:Nat→BitVec 8) (i k:Nat) (hk:k<16):tw (rc i) (rk key i) (k+1) (k%4)=rk key (i+1) k:=by
 rw [rk,nk,tb_at _ hk]
 unfold tw
 rw [if_pos (by omega),show (k+1-1-k%4)/4=k/4 by omega]
theorem cp_key (key:Nat→BitVec 8) (i k:Nat) (hi:i<11) (hk:k<16):∀j,j<688→(if j=512+i*16+k then rk key i k else cp 256 (i*16+k) key j)=cp 256 (i*16+(k+1)) key j:=fun j hj=>by
 unfold cp
 by_cases h1:j<256
 ·simp [h1,show ¬j=512+i*16+k by omega]
 ·by_cases h2:j<512
  ·simp [h1,h2,show ¬j=512+i*16+k by omega]
  ·by_cases e:j=512+i*16+k
   ·rw [if_pos e,if_neg h1,if_neg h2,if_pos (by omega),show (j-512)/16=i by omega,show (j-512)%16=k by omega]
   ·rw [if_neg e,if_neg h1,if_neg h2,if_neg h1,if_neg h2]
    by_cases h3:j<512+(i*16+k)
    ·rw [if_pos h3,if_pos (by omega)]
    ·rw [if_neg h3,if_neg (by omega)]
theorem fL_eq {n:Nat} {s t:Nat→BitVec 8} (h:∀i,i<n→s i=t i):fL n s=fL n t:=by
 unfold fL
 apply List.map_congr_left
 intro i hi
 rw [h i (List.mem_range.1 hi)]
theorem fA_part {n o m:Nat} (s:Nat→BitVec 8) (h:o+m≤n):((fA n s).toList.drop o).take m=fL m fun j=>s (o+j):=by
 apply List.ext_getElem?
 intro j
 by_cases hj:j<m
 ·rw [List.getElem?_take_of_lt hj,List.getElem?_drop,Array.getElem?_toList,fA_at _ (by omega)]
  simp [fL,hj,fv]
 ·rw [List.getElem?_eq_none (by simp;omega),List.getElem?_eq_none (by simp [fL];omega)]
theorem cp_was (key:Nat→BitVec 8) (m:Nat):∀j,j<16→cp 256 ((m+1)*16) key (512+m*16+j)=rk key m j:=fun j hj=>by
 unfold cp
 rw [if_neg (by omega),if_neg (by omega),if_pos (by omega),show (512+m*16+j-512)/16=m by omega,show (512+m*16+j-512)%16=j by omega]
theorem cp_box (m:Nat) (key:Nat→BitVec 8) (a:BitVec 8):cp 256 m key a.toNat=bx a:=by
 have:=a.isLt
 unfold cp
 rw [if_pos this,if_pos this,bn_toNat]
def KeyRel (w:World) (H:Nat) (key:Nat→BitVec 8) (f:Nat) (i r:Value) (wr:World):Prop:=
 ∃n:Nat,f+n=11∧1≤n∧i= .int .i64 n∧r= .int .u8 (B8 (rc (n-1)))∧Blk wr (H+1) (fA 688 (cp 256 (n*16) key)) 233∧Below H w wr
def WordRel (w:World) (H G n m:Nat) (key:Nat→BitVec 8) (f:Nat) (i:Value) (wr:World):Prop:=
 ∃k:Nat,f+k=16∧i= .int .i64 k∧Blk wr (H+1) (fA 688 (cp 256 (n*16+k) key)) 233∧Blk wr G (fA 16 (rk key m)) 169∧Blk wr (G+1) (fA 4 (tw (rc m) (rk key m) k)) 235∧Below H w wr
theorem word0 (r:BitVec 8) (w:Nat→BitVec 8):splice #[.int .u8 0,.int .u8 0,.int .u8 0,.int .u8 0] 0 #[.int .u8 (B8 (bx (w 13)^^^r)),.int .u8 (B8 (bx (w 14))),.int .u8 (B8 (bx (w 15))),.int .u8 (B8 (bx (w 12)))]=fA 4 (tw r w 0):=by
 have h:fA 4 (tw r w 0)= #[fv (tw r w 0 0),fv (tw r w 0 1),fv (tw r w 0 2),fv (tw r w 0 3)]:=rfl
 rw [h]
 simp [splice,tw,nk0,fv]
theorem tmod4 (k:Nat):((k:Int)).tmod 4=((k%4:Nat):Int):=by rw [Int.tmod_eq_emod_of_nonneg (by omega)];omega
set_option maxHeartbeats 2000000 in
set_option maxRecDepth 100000 in
theorem ready_any (key:Nat→BitVec 8) (w:World):
  Calls Tryz.prog 140 #[.agg (fA 16 key)] w fun e w'=>∃g,e= .returned (.pointer (some ⟨g,0,none⟩))∧w.heap.size≤g∧Blk w' g (fA 688 (cph key)) 233∧Below w.heap.size w w':=by
 have c0:(Tryz.prog.built 233 []).getD #[]=fA 688 (cp 0 0 key):=by rw [cipher0];exact fA_eq fun i _=>(cp_zero key i).symm
 have C0:=Lib.hid c0
 clear c0
 go_enter Tryz.func140,Tryz.ntmps140
 go_wp2_with (refine wpList_build rfl 233 #[] rfl (by simp [cipher0]) ?_)
 rw [C0.out]
 refine wp_forget (fun W0=>Blk W0 w.heap.size (fA 16 key) 169∧Blk W0 (w.heap.size+1) (fA 688 (cp 0 0 key)) 233∧Below w.heap.size w W0) ⟨Blk.new2 _ _ _ _,Blk.new2' _ _ _ _,by (try unfold Kept);repeat (first|assumption|exact Below.refl _ _|exact below_undrew (Below.refl _ _)|exact Below.mono (by assumption) (by first|(simp;done)|(simp;omega)|omega)|refine below_setRow ?_ (by first|(simp;done)|(simp;omega)|omega) _|refine Below.setCell ?_ (by first|(simp;done)|(simp;omega)|omega) _|refine Below.alloc ?_ (by first|(simp;done)|(simp;omega)|omega) _|refine below_drewN ?_ _|refine Below.drew ?_|refine below_undrew ?_|refine below_step ?_ (by assumption))⟩ ?_
 rintro w0 ⟨hK0,hC0,hb0⟩
 obtain ⟨H,hH⟩:∃H,H=w.heap.size:=⟨_,rfl⟩
 rw [←hH] at hK0 hC0 hb0⊢
 have HH:=Lib.hid hH
 clear hH C0
 go_loopw [12] (fun i wr=>∃k:Nat,k≤256∧i= .int .i64 k∧Blk wr H (fA 16 key) 169∧Blk wr (H+1) (fA 688 (cp k 0 key)) 233∧Below H w wr) (fun i _=>256-(intOf i).toNat)
 case atStart=>exact ⟨0,by omega,rfl,hK0,hC0,hb0⟩
 case round=>
  clear hK0 hC0 hb0
  obtain ⟨k,hk,rfl,hK,hC,hb⟩:=hrel
  by_cases hlt:k<256
  ·have tk:decide ((k:Int)<256)=true:=by simp;omega
   go_wp2_with fail
   have hw:IntKind.u8.wrap (k:Int)=B8 (bn k):=by rw [IntWalk.u8_in _ (by omega)];exact byte_nat k hlt
   have hkI:(k:Int)<256:=by omega
   refine wp_region_treeR true Old Old.refl Old.trans (.step 0 (.step 1 (.step 2 (.step 3 (.step 5 (.step 6 (.step 4 (.step 7 (.step 8 .done))))))))) (by kernel_rfl) (by kernel_rfl) (fun c a d v w h=>by cases d<;>exact h) ?_
   repeat (first|(refine tree_skip rfl (by rfl) ?_;simp only [Act.put,List.setIfInBounds_toArray,List.set])|(refine tree_quiet (v:= ?_) rfl rfl (by rfl) ?_ ?_;rotate_left;(intro W hW;go_simp);(try with_reducible rfl);simp only [Act.put,List.setIfInBounds_toArray,List.set]))
   refine tree_loud rfl rfl (by rfl) (fun K hK=> ?_);go_wp2_with fail
   refine (box_any (bn k) _).mono ?_
   rintro e w' ⟨rfl,rfl⟩
   go_wp2_with fail
   refine hK _ _ (Old.refl _) ?_
   clear hK K
   repeat (first|(refine tree_skip rfl (by rfl) ?_;simp only [Act.put,List.setIfInBounds_toArray,List.set])|(refine tree_quiet (v:= ?_) rfl rfl (by rfl) ?_ ?_;rotate_left;(intro W hW;go_simp);(try with_reducible rfl);simp only [Act.put,List.setIfInBounds_toArray,List.set]))
   have hCd:=hC.drew
   have r3:=hCd.rule
   have f3:=hCd.free
   have ck3:=fA_at (cp k 0 key) (show k<688 by omega)
   refine tree_store rfl rfl (by rfl) (fun K hK=> ?_);go_wp2_with fail;refine tree_done ?_
   clear r3 f3 ck3 hw
   go_upto_region 6 with (fail)
   have hC1:Blk (wr.drew.setCell ⟨H+1,k,none⟩ (.int .u8 (B8 (bx (bn k))))) (H+1) (fA 688 (cp1 k key)) 233:=(hCd.setF (show k<688 by omega) (bx (bn k))).ofF fun i _=>rfl
   have hK1:=hK.drew.other ⟨H+1,k,none⟩ (.int .u8 (B8 (bx (bn k)))) (by simp)
   have hb1:Below H w (wr.drew.setCell ⟨H+1,k,none⟩ (.int .u8 (B8 (bx (bn k))))):=hb.drew.setCell (by simp) _
   refine wp_forget (fun W0=>Blk W0 H (fA 16 key) 169∧Blk W0 (H+1) (fA 688 (cp1 k key)) 233∧Below H w W0) ⟨hK1,hC1,hb1⟩ ?_
   clear hK hC hb hK1 hC1 hb1 hCd
   rintro w2 ⟨hK,hC,hb⟩
   have r2:=B8_lo (bx (bn k))
   have r4:=B8_lt (bx (bn k))
   have r5:=B8_toNat (bx (bn k))
   have hw:IntKind.u8.wrap (k:Int)=B8 (bn k):=by rw [IntWalk.u8_in _ (by omega)];exact byte_nat k hlt
   have C1:∀W,Old w2.drew W→W.cell? ⟨H+1,k,none⟩=some (.int .u8 (B8 (bx (bn k)))):=fun W h=>(hC.drew.old h).atF (by omega) (by simp [cp1])
   refine wp_region_treeR true Old Old.refl Old.trans (.step 0 (.step 1 (.step 2 (.step 3 (.step 4 (.step 5 (.step 6 (.step 7 (.step 8 (.step 9 (.step 10 (.step 11 (.step 12 .done))))))))))))) (by kernel_rfl) (by kernel_rfl) (fun c a d v w h=>by cases d<;>exact h) ?_
   repeat (first|(refine tree_skip rfl (by rfl) ?_;simp only [Act.put,List.setIfInBounds_toArray,List.set])|(refine tree_quiet (v:= ?_) rfl rfl (by rfl) ?_ ?_;rotate_left;(intro W hW;go_simp);(try with_reducible rfl);simp only [Act.put,List.setIfInBounds_toArray,List.set]))
   have hCd:=hC.drew
   have r3:=hCd.rule
   have f3:=hCd.free
   have hlt2:256+(bx (bn k)).toNat<688:=by have:=(bx (bn k)).isLt;omega
   have ck3:=fA_at (cp1 k key) hlt2
   refine tree_store rfl rfl (by rfl) (fun K hK=> ?_);go_wp2_with fail;refine tree_done ?_
   clear r3 f3 ck3 hw C1 r2 r4 r5
   go_wp2_with fail
   go_roundw
   case rel=>exact ⟨k+1,by omega,by go_num,hK.drew.other _ _ (by simp),(hCd.setF hlt2 (bn k)).ofF (cp_step k hlt key),hb.drew.setCell (by simp) _⟩
   case measure=>simp [intOf];omega
  ·obtain rfl:k=256:=by omega
   have tk:decide (((256:Nat):Int)<256)=false:=by simp
   go_wp2_with fail
   have hKc:=fun W (h:Old wr.drew W)=>(hK.drew.old h)
   refine wp_region_treeR true Old Old.refl Old.trans (.step 0 (.step 1 (.step 2 (.step 3 (.step 4 (.step 5 .done)))))) (by kernel_rfl) (by kernel_rfl) (fun c a d v w h=>by cases d<;>exact h) ?_
   repeat (first|(refine tree_skip rfl (by rfl) ?_;simp only [Act.put,List.setIfInBounds_toArray,List.set])|(refine tree_quiet (v:= ?_) rfl rfl (by rfl) ?_ ?_;rotate_left;(intro W hW;go_simp);(try with_reducible rfl);simp only [Act.put,List.setIfInBounds_toArray,List.set]))
   refine tree_quiet (v:= .agg (fA 16 key)) rfl rfl (by rfl) (fun W hW=>exec_load_as 169 agg16 _ rfl rfl rfl (hKc W hW).cells (fL_length _ _)) ?_
   simp only [Act.put,List.setIfInBounds_toArray,List.set]
   repeat (first|(refine tree_skip rfl (by rfl) ?_;simp only [Act.put,List.setIfInBounds_toArray,List.set])|(refine tree_quiet (v:= ?_) rfl rfl (by rfl) ?_ ?_;rotate_left;(intro W hW;go_simp);(try with_reducible rfl);simp only [Act.put,List.setIfInBounds_toArray,List.set]))
   clear hKc
   have hCd:=hC.drew
   refine tree_store rfl rfl (by rfl) (fun K hK=> ?_)
   refine wp_store_at 169 agg16 _ _ rfl rfl rfl hCd (fA_size _ _) (by simp [fA_size]) (fA_one _ _) ?_
   refine hK _ _ ?_
   clear hK K
   refine tree_done ?_
   have hC1:=(hCd.setRow (splice (fA 688 (cp 256 0 key)) 512 (fA 16 key)))
   rw [fA_splice _ _ (by omega)] at hC1⊢
   have hC2:=hC1.ofF (cp_key0 key)
   have hb2:=below_setRow (B:=H) (g:=H+1) (hb.drew) (by omega) (fA 688 fun j=>if 512≤j∧j<512+16 then key (j-512) else cp 256 0 key j)
   clear hC1 hCd hK hC hb
   go_upto_region 9 with (fail)
   refine wp_forget (fun W0=>Blk W0 (H+1) (fA 688 (cp 256 16 key)) 233∧Below H w W0) ⟨hC2,hb2⟩ ?_
   clear hC2 hb2
   rintro w2 ⟨hC,hb⟩
   go_wp2_with fail
   go_loopg [6,5] 10 (KeyRel w H key)
   case atStart=>exact ⟨1,by omega,by omega,rfl,rfl,hC,hb⟩
   case round=>
    clear hC hb
    obtain ⟨n,hf,hn1,rfl,rfl,hC,hb⟩:=hrel
    by_cases hn:n<11
    ·have tn:decide ((n:Int)<11)=true:=by simp;omega
     obtain ⟨m,hm⟩:∃m,n=m+1:=⟨n-1,by omega⟩
     have hm1:(n:Int)-1=(m:Int):=by omega
     have hm11:(m:Int)<11:=by omega
     have hm0:(0:Int)≤(m:Int):=by omega
     rw [show n-1=m by omega]
     have HM:=Lib.hid hm
     have hC':=hC
     rw [hm] at hC'
     have HF0:=Lib.hid hf
     clear hm hf
     go_wp2_with (first|refine wpList_load_part rfl 169 agg16 _ rfl rfl hC' (part:=fL 16 (rk key m)) (by rw [fA_part _ (by omega)];exact fL_eq (cp_was key m)) (fL_length _ _) ?_|refine wpList_store_blk rfl 169 agg16 (.tmp 7) _ (cells:=fA 16 (rk key m)) rfl rfl rfl (Blk.new _ _ _) (fA_size _ _) rfl (fA_one _ _) ?_)
     obtain ⟨G,hG⟩:∃G,G=wr.heap.size:=⟨_,rfl⟩
     have hGH:H+1<G:=by rw [hG];exact hC.lt
     rw [←hG]
     have hBG:Blk (wr.alloc (.cells #[.int .u8 0,.int .u8 0,.int .u8 0,.int .u8 0,.int .u8 0,.int .u8 0,.int .u8 0,.int .u8 0,.int .u8 0,.int .u8 0,.int .u8 0,.int .u8 0,.int .u8 0,.int .u8 0,.int .u8 0,.int .u8 0] 169)) G #[.int .u8 0,.int .u8 0,.int .u8 0,.int .u8 0,.int .u8 0,.int .u8 0,.int .u8 0,.int .u8 0,.int .u8 0,.int .u8 0,.int .u8 0,.int .u8 0,.int .u8 0,.int .u8 0,.int .u8 0,.int .u8 0] 169:=by rw [hG];exact Blk.new _ _ _
     refine wp_forget (fun W0=>Blk W0 (H+1) (fA 688 (cp 256 (n*16) key)) 233∧Blk W0 G (fA 16 (rk key m)) 169∧Below H w W0∧W0.heap.size=G+1) ⟨(hC.alloc _).setRow_other _ _ (by omega),hBG.setRow _,below_setRow (hb.alloc (by omega) _) (by omega) _,by simp [←hG]⟩ ?_
     clear hBG hC hC' hb hG
     rintro w3 ⟨hC,hW,hb,hsz⟩
     have q13:=B8_lo (rk key m 13)
     have p13:=B8_lt (rk key m 13)
     have z13:=B8_toNat (rk key m 13)
     have q14:=B8_lo (rk key m 14)
     have p14:=B8_lt (rk key m 14)
     have z14:=B8_toNat (rk key m 14)
     have q15:=B8_lo (rk key m 15)
     have p15:=B8_lt (rk key m 15)
     have z15:=B8_toNat (rk key m 15)
     have q12:=B8_lo (rk key m 12)
     have p12:=B8_lt (rk key m 12)
     have z12:=B8_toNat (rk key m 12)
     have D13:∀W,Old w3.drew W→W.cell? ⟨G,13,none⟩=some (.int .u8 (B8 (rk key m 13))):=fun W h=>(hW.drew.old h).atF (by omega) rfl
     have D14:∀W,Old w3.drew W→W.cell? ⟨G,14,none⟩=some (.int .u8 (B8 (rk key m 14))):=fun W h=>(hW.drew.old h).atF (by omega) rfl
     have D15:∀W,Old w3.drew W→W.cell? ⟨G,15,none⟩=some (.int .u8 (B8 (rk key m 15))):=fun W h=>(hW.drew.old h).atF (by omega) rfl
     have D12:∀W,Old w3.drew W→W.cell? ⟨G,12,none⟩=some (.int .u8 (B8 (rk key m 12))):=fun W h=>(hW.drew.old h).atF (by omega) rfl
     have D:∀(x:BitVec 8) W,Old w3.drew W→W.cell? ⟨H+1,x.toNat,none⟩=some (.int .u8 (B8 (bx x))):=fun x W h=>(hC.drew.old h).atF (by have:=x.isLt;omega) (cp_box _ _ _)
     clear hm1 hm11 hm0
     refine wp_region_treeR true Old Old.refl Old.trans (.step 0 (.step 1 (.step 2 (.step 3 (.step 4 (.step 5 (.step 6 (.step 7 (.step 8 (.step 9 (.step 10 (.step 11 (.step 12 (.step 13 (.step 14 (.step 15 (.step 16 (.step 17 (.step 18 (.step 19 (.step 20 (.step 21 (.step 22 (.step 23 (.step 24 (.step 25 (.step 26 (.step 27 (.step 28 (.step 29 (.step 30 (.step 31 (.step 32 .done))))))))))))))))))))))))))))))))) (by kernel_rfl) (by kernel_rfl) (fun c a d v w h=>by cases d<;>exact h) ?_
     repeat (first|(refine tree_skip rfl (by rfl) ?_;simp only [Act.put,List.setIfInBounds_toArray,List.set])|(refine tree_quiet (v:= ?_) rfl rfl (by rfl) ?_ ?_;rotate_left;(intro W hW;go_simp);(try with_reducible rfl);simp only [Act.put,List.setIfInBounds_toArray,List.set]))
     refine tree_loud rfl rfl (by rfl) (fun K hK=> ?_);go_wp2_with fail
     refine hK _ _ ((Below.refl _ _).alloc (Nat.le_refl _) _) ?_
     clear hK K
     clear q12 q13 q14 q15 p12 p13 p14 p15 z12 z13 z14 z15 D D12 D13 D14 D15
     have hsz':w3.drew.heap.size=G+1:=hsz
     have hBT:Blk (w3.drew.alloc (.cells #[.int .u8 0,.int .u8 0,.int .u8 0,.int .u8 0] 235)) (G+1) #[.int .u8 0,.int .u8 0,.int .u8 0,.int .u8 0] 235:=by rw [←hsz'];exact Blk.new _ _ _
     rw [hsz'] at*
     refine tree_store rfl rfl (by rfl) (fun K hK=> ?_)
     refine wp_store_at 235 agg4 _ _ rfl rfl rfl hBT rfl (by simp) rfl ?_
     refine hK _ _ ?_
     clear hK K
     refine tree_done ?_
     have hT:=hBT.setRow (splice #[.int .u8 0,.int .u8 0,.int .u8 0,.int .u8 0] 0 #[.int .u8 (B8 (bx (rk key m 13)^^^rc m)),.int .u8 (B8 (bx (rk key m 14))),.int .u8 (B8 (bx (rk key m 15))),.int .u8 (B8 (bx (rk key m 12)))])
     rw [word0] at hT⊢
     have hC1:=(hC.drew.alloc (.cells #[.int .u8 0,.int .u8 0,.int .u8 0,.int .u8 0] 235)).setRow_other (G+1) (fA 4 (tw (rc m) (rk key m) 0)) (by omega)
     have hW1:=(hW.drew.alloc (.cells #[.int .u8 0,.int .u8 0,.int .u8 0,.int .u8 0] 235)).setRow_other (G+1) (fA 4 (tw (rc m) (rk key m) 0)) (by omega)
     have hb1:=below_setRow (B:=H) (g:=G+1) (hb.drew.alloc (by have e:w3.drew.heap.size=w3.heap.size:=rfl;omega) (.cells #[.int .u8 0,.int .u8 0,.int .u8 0,.int .u8 0] 235)) (by omega) (fA 4 (tw (rc m) (rk key m) 0))
     go_upto_region 15 with (fail)
     refine wp_forget (fun W0=>Blk W0 (H+1) (fA 688 (cp 256 (n*16) key)) 233∧Blk W0 G (fA 16 (rk key m)) 169∧Blk W0 (G+1) (fA 4 (tw (rc m) (rk key m) 0)) 235∧Below H w W0) ⟨hC1,hW1,hT,hb1⟩ ?_
     clear hC1 hW1 hT hb1 hBT hsz hsz' hC hW hb
     rintro w4 ⟨hC,hW,hT,hb⟩
     go_wp2_with (go_at_call 169;refine (times_any (rc m) 2#8 _).mono ?_;rintro e w' ⟨rfl,rfl⟩)
     obtain ⟨g0,rfl⟩:∃g:Nat,g=gk:=⟨_,rfl⟩
     go_loopg [85] 16 (WordRel w H G n m key)
     case atStart=>exact ⟨0,by omega,rfl,hC,hW,hT,hb⟩
     case round=>
      clear hC hW hT hb
      obtain ⟨k,hf,rfl,hC,hW,hT,hb⟩:=hrel
      by_cases hlt:k<16
      ·have HF:=Lib.hid hf
       clear hf
       have tk:decide ((k:Int)<16)=true:=by simp;omega
       go_wp2_with fail
       obtain ⟨c,hc⟩:∃c,c=k%4:=⟨_,rfl⟩
       have hc4:c<4:=by omega
       have hcI:(c:Int)<4:=by omega
       have hc0:(0:Int)≤(c:Int):=by omega
       have hct:((k:Int)).tmod 4=(c:Int):=by rw [hc];exact tmod4 k
       have hkI:(k:Int)<16:=by omega
       have HC:=Lib.hid hc
       clear hc
       have C1:∀W,Old wr.drew W→W.cell? ⟨G+1,c,none⟩=some (.int .u8 (B8 (tw (rc m) (rk key m) k c))):=fun W h=>(hT.drew.old h).atF hc4 rfl
       have C2:∀W,Old wr.drew W→W.cell? ⟨G,k,none⟩=some (.int .u8 (B8 (rk key m k))):=fun W h=>(hW.drew.old h).atF hlt rfl
       refine wp_region_treeR true Old Old.refl Old.trans (.step 0 (.step 1 (.step 2 (.step 3 (.step 4 (.step 5 (.step 6 (.step 7 (.step 8 (.step 9 .done)))))))))) (by kernel_rfl) (by kernel_rfl) (fun c a d v w h=>by cases d<;>exact h) ?_
       repeat (first|(refine tree_skip rfl (by rfl) ?_;simp only [Act.put,List.setIfInBounds_toArray,List.set])|(refine tree_quiet (v:= ?_) rfl rfl (by rfl) ?_ ?_;rotate_left;(intro W hW;go_simp);(try with_reducible rfl);simp only [Act.put,List.setIfInBounds_toArray,List.set]))
       have hTd:=hT.drew
       have r3:=hTd.rule
       have f3:=hTd.free
       have ck3:=fA_at (tw (rc m) (rk key m) k) hc4
       refine tree_store rfl rfl (by rfl) (fun K hK=> ?_);go_wp2_with fail;refine tree_done ?_
       clear r3 f3 ck3 C1 C2
       have hT1:Blk _ (G+1) (fA 4 (tw (rc m) (rk key m) (k+1))) 235:=(hTd.setF hc4 (tw (rc m) (rk key m) k c^^^rk key m k)).ofF (by rw [HC.out];exact tw_step (rc m) (rk key m) k)
       have hC1:=hC.drew.other ⟨G+1,c,none⟩ (.int .u8 (B8 (tw (rc m) (rk key m) k c^^^rk key m k))) (by show H+1≠G+1;omega)
       have hW1:=hW.drew.other ⟨G+1,c,none⟩ (.int .u8 (B8 (tw (rc m) (rk key m) k c^^^rk key m k))) (by show G≠G+1;omega)
       have hb1:Below H w (wr.drew.setCell ⟨G+1,c,none⟩ (.int .u8 (B8 (tw (rc m) (rk key m) k c^^^rk key m k)))):=hb.drew.setCell (by show H≤G+1;omega) _
       go_upto_region 20 with (fail)
       refine wp_forget (fun W0=>Blk W0 (H+1) (fA 688 (cp 256 (n*16+k) key)) 233∧Blk W0 G (fA 16 (rk key m)) 169∧Blk W0 (G+1) (fA 4 (tw (rc m) (rk key m) (k+1))) 235∧Below H w W0) ⟨hC1,hW1,hT1,hb1⟩ ?_
       clear hC1 hW1 hT1 hb1 hTd hC hW hT hb
       rintro w5 ⟨hC,hW,hT,hb⟩
       have D1:∀W,Old w5.drew W→W.cell? ⟨G+1,c,none⟩=some (.int .u8 (B8 (rk key n k))):=fun W h=>(hT.drew.old h).atF hc4 (by rw [HC.out,HM.out];exact tw_key key m k hlt)
       have hnI:(n:Int)<11:=by omega
       refine wp_region_treeR true Old Old.refl Old.trans (.step 0 (.step 1 (.step 2 (.step 3 (.step 4 (.step 5 (.step 6 (.step 7 (.step 8 (.step 9 (.step 10 (.step 11 .done)))))))))))) (by kernel_rfl) (by kernel_rfl) (fun c a d v w h=>by cases d<;>exact h) ?_
       repeat (first|(refine tree_skip rfl (by rfl) ?_;simp only [Act.put,List.setIfInBounds_toArray,List.set])|(refine tree_quiet (v:= ?_) rfl rfl (by rfl) ?_ ?_;rotate_left;(intro W hW;go_simp);(try with_reducible rfl);simp only [Act.put,List.setIfInBounds_toArray,List.set]))
       have hCd:=hC.drew
       have r3:=hCd.rule
       have f3:=hCd.free
       have hlt3:512+n*16+k<688:=by omega
       have ck3:=fA_at (cp 256 (n*16+k) key) hlt3
       refine tree_store rfl rfl (by rfl) (fun K hK=> ?_);go_wp2_with fail;refine tree_done ?_
       clear r3 f3 ck3 D1 hct
       go_wp2_with fail
       go_roundg (gk-1)
       case rel=>
        have hf:=HF.out
        exact ⟨k+1,by omega,by go_num,(hCd.setF hlt3 (rk key n k)).ofF (cp_key key n k hn hlt),hW.drew.other _ _ (by show G≠H+1;omega),hT.drew.other _ _ (by show G+1≠H+1;omega),hb.drew.setCell (by show H≤H+1;omega) _⟩
       case measure=>have hf:=HF.out;omega
      ·obtain rfl:k=16:=by omega
       have tk:decide (((16:Nat):Int)<16)=false:=by simp
       go_wp2_with fail
       go_roundg (g0-1)
       case rel=>
        have hm:=HM.out
        have hf0:=HF0.out
        exact ⟨n+1,by omega,by omega,by go_num,by rw [show n+1-1=m+1 by omega];rfl,hC.ofF fun i _=>by rw [Nat.add_mul,Nat.one_mul],hb⟩
       case measure=>have hf0:=HF0.out;omega
    ·obtain rfl:n=11:=by omega
     have tn:decide (((11:Nat):Int)<11)=false:=by simp
     go_wp2_with fail
     go_ret
     rw [HH.out] at hb hC⊢
     exact ⟨w.heap.size+1,rfl,by omega,hC.ofF fun i _=>rfl,hb⟩
end
section
open Go.RowKit
attribute [local go_sem] bits_xor_B8 bits_and_B8 bits_or_B8 ofInt_B8
theorem tb_bx (s:Nat→BitVec 8):(tb 16 fun j=>bx (bn (s j).toNat))=thr bx s:=tb_eq fun j _=>by rw [bn_toNat]
theorem through_bx (gb gc:Nat) (s key:Nat→BitVec 8) (w:World) (hB:Blk w gb (fA 16 s) 169) (hC:Blk w gc (fA 688 (cph key)) 233):
  Calls Tryz.prog 172 #[.pointer (some ⟨gb,0,none⟩),.pointer (some ⟨gc,0,none⟩)] w fun e w'=>
   e= .returned (.tuple #[])∧Blk w' gb (fA 16 (thr bx s)) 169∧w.grownBy w' (some gb):=by
 have:=through_any gb gc 0 s (fun i=>bx (bn i)) w hB (Blk.ne hB hC (by decide)) (fun i hi=>by rw [Nat.zero_add];exact hC.atF (by omega) (cph_box key i hi))
 rw [tb_bx] at this
 exact this
theorem key_rk (gb gc r:Nat) (s key:Nat→BitVec 8) (w:World) (hr:r<11) (hB:Blk w gb (fA 16 s) 169) (hC:Blk w gc (fA 688 (cph key)) 233):
  Calls Tryz.prog 170 #[.pointer (some ⟨gc,0,none⟩),.pointer (some ⟨gb,0,none⟩),.int .i64 (r:Int)] w fun e w'=>
   e= .returned (.tuple #[])∧Blk w' gb (fA 16 (sx s (rk key r))) 169∧w.grownBy w' (some gb):=
 key_any gb gc r s (rk key r) w hB (Blk.ne hB hC (by decide)) hr (fun i hi=>hC.atF (by omega) (cph_key key r i hr hi))
set_option maxHeartbeats 400000 in
theorem step1_any (gb gc gp:Nat) (s key:Nat→BitVec 8) (w:World) (hB:Blk w gb (fA 16 s) 169) (hC:Blk w gc (fA 688 (cph key)) 233) (hP:w.cell? ⟨gp,0,none⟩=some (.pointer (some ⟨gc,0,none⟩))):
  Calls Tryz.prog 171 #[.pointer (some ⟨gb,0,none⟩),.pointer (some ⟨gp,0,none⟩)] w fun e w'=>
   e= .returned (.tuple #[])∧Blk w' gb (fA 16 (thr bx s)) 169∧w.grownBy w' (some gb):=by
 go_enter Tryz.func171,Tryz.ntmps171
 go_wp2_with (go_at_call 172;refine (through_bx gb gc s key _ hB hC).mono ?_;rintro e w' ⟨rfl,h1,h2⟩)
 go_end0
 exact ⟨rfl,h1,h2⟩
set_option maxHeartbeats 400000 in
theorem step2_any (gb:Nat) (s:Nat→BitVec 8) (w:World) (hB:Blk w gb (fA 16 s) 169):
  Calls Tryz.prog 173 #[.pointer (some ⟨gb,0,none⟩)] w fun e w'=>
   e= .returned (.tuple #[])∧Blk w' gb (fA 16 (trn s)) 169∧w.grownBy w' (some gb):=by
 go_enter Tryz.func173,Tryz.ntmps173
 go_wp2_with (go_at_call 174;refine (turn_forth gb s _ hB).mono ?_;rintro e w' ⟨rfl,h1,h2⟩)
 go_end0
 exact ⟨rfl,h1,h2⟩
set_option maxHeartbeats 400000 in
theorem step3_any (gb gr r:Nat) (s:Nat→BitVec 8) (w:World) (hB:Blk w gb (fA 16 s) 169) (hR:w.cell? ⟨gr,0,none⟩=some (.int .i64 (r:Int))):
  Calls Tryz.prog 175 #[.pointer (some ⟨gr,0,none⟩),.pointer (some ⟨gb,0,none⟩)] w fun e w'=>
   e= .returned (.tuple #[])∧Blk w' gb (fA 16 (if r<10 then mx mE s else s)) 169∧w.grownBy w' (some gb):=by
 by_cases h:r<10
 ·have t:decide ((r:Int)<10)=true:=by simp;omega
  rw [if_pos h]
  go_enter Tryz.func175,Tryz.ntmps175
  go_wp2_with (go_at_call 176;refine (mix_any gb mE s _ hB).mono ?_;rintro e w' ⟨rfl,h1,h2⟩)
  go_end0
  exact ⟨rfl,h1,h2⟩
 ·have t:decide ((r:Int)<10)=false:=by simp;omega
  rw [if_neg h]
  go_enter Tryz.func175,Tryz.ntmps175
  go_wp2_with fail
  go_end0
  exact ⟨rfl,hB,World.grownBy.refl _ _⟩
set_option maxHeartbeats 400000 in
theorem step4_any (gb gc gp gr r:Nat) (s key:Nat→BitVec 8) (w:World) (hr:r<11) (hB:Blk w gb (fA 16 s) 169) (hC:Blk w gc (fA 688 (cph key)) 233) (hP:w.cell? ⟨gp,0,none⟩=some (.pointer (some ⟨gc,0,none⟩))) (hR:w.cell? ⟨gr,0,none⟩=some (.int .i64 (r:Int))):
  Calls Tryz.prog 177 #[.pointer (some ⟨gp,0,none⟩),.pointer (some ⟨gb,0,none⟩),.pointer (some ⟨gr,0,none⟩)] w fun e w'=>
   e= .returned (.tuple #[])∧Blk w' gb (fA 16 (sx s (rk key r))) 169∧w.grownBy w' (some gb):=by
 go_enter Tryz.func177,Tryz.ntmps177
 go_wp2_with (go_at_call 170;refine (key_rk gb gc r s key _ hr hB hC).mono ?_;rintro e w' ⟨rfl,h1,h2⟩)
 go_end0
 exact ⟨rfl,h1,h2⟩
def ins (key:Nat→BitVec 8) (r:Nat) (s:Nat→BitVec 8):Nat→Nat→BitVec 8
 |0=>s
 |1=>thr bx s
 |2=>trn (thr bx s)
 |3=>if r<10 then mx mE (trn (thr bx s)) else trn (thr bx s)
 |_=>rnd key r s
structure HeldA (w:World) (H gc n R:Nat) (key t:Nat→BitVec 8) (wr:World):Prop where
 pos:H+3≤R
 cell:Blk wr R #[.int .i64 (n:Int)] 3
 ptr:Blk wr H #[.pointer (some ⟨gc,0,none⟩)] 201
 blk:Blk wr (H+1) (fA 16 t) 169
 res:∃z:Array Value,z.size=16∧Blk wr (H+2) z 169
 key:Blk wr gc (fA 688 (cph key)) 233
 bel:Below H w wr
theorem HeldA.step {w:World} {H gc n R:Nat} {key t u:Nat→BitVec 8} {wr w':World} (h:HeldA w H gc n R key t wr) (hgc:gc<H) (hB:Blk w' (H+1) (fA 16 u) 169) (hg:wr.grownBy w' (some (H+1))):HeldA w H gc n R key u w':=by
 obtain ⟨hp,hc,hq,hb,⟨z,hz,hr⟩,hk,hl⟩:=h
 have hs:H≤wr.heap.size:=by have:=hc.lt;omega
 exact ⟨hp,hc.grown hg (by simp;omega),hq.grown hg (by simp),hB,⟨z,hz,hr.grown hg (by simp)⟩,hk.grown hg (by simp;omega),below_only hl hs hg (by omega)⟩
def RoundRel (w:World) (H gc:Nat) (key s:Nat→BitVec 8) (f:Nat) (p:Value) (wr:World):Prop:=
 ∃n R:Nat,f+n=11∧1≤n∧p= .pointer (some ⟨R,0,none⟩)∧HeldA w H gc n R key (encs key s (n-1)) wr
def InsRel (w:World) (H gc n R:Nat) (key t:Nat→BitVec 8) (f:Nat) (i:Value) (wr:World):Prop:=
 ∃k:Nat,f+k=4∧i= .int .i64 (k:Int)∧HeldA w H gc n R key (ins key n t k) wr
theorem funcInfo:(Tryz.prog.info? 1).map (·.size)=some 1:=by kernel_rfl
set_option maxHeartbeats 2000000 in
set_option maxRecDepth 100000 in
theorem ablock_any (gc:Nat) (s key:Nat→BitVec 8) (w:World) (hC:Blk w gc (fA 688 (cph key)) 233):
  Calls Tryz.prog 141 #[.pointer (some ⟨gc,0,none⟩),.agg (fA 16 s)] w fun e w'=>
   e= .returned (.agg (fA 16 (enc key s)))∧Below w.heap.size w w':=by
 have hgc:=hC.lt
 go_enter Tryz.func141,Tryz.ntmps141
 go_wp2_with fail
 refine (key_rk (w.heap.size+1) gc 0 s key _ (by omega) ((Blk.new2' _ _ _ _).alloc _) (((hC.alloc _).alloc _).alloc _)).mono ?_
 rintro e w1 ⟨rfl,hB1,hg1⟩
 obtain ⟨H,hH⟩:∃H,H=w.heap.size:=⟨_,rfl⟩
 have hc1:=(((hC.alloc _).alloc _).alloc _).grown hg1 (by simp;omega)
 have hp1:Blk w1 w.heap.size #[.pointer (some ⟨gc,0,none⟩)] 201:=(Blk.new3 w _ _ _ _).grown hg1 (by simp)
 have hz1:∃z:Array Value,z.size=16∧Blk w1 (w.heap.size+2) z 169:=⟨_,rfl,(Blk.new3'' w #[.int .u8 0,.int .u8 0,.int .u8 0,.int .u8 0,.int .u8 0,.int .u8 0,.int .u8 0,.int .u8 0,.int .u8 0,.int .u8 0,.int .u8 0,.int .u8 0,.int .u8 0,.int .u8 0,.int .u8 0,.int .u8 0] _ _ _).grown hg1 (by simp)⟩
 have hb1:Below w.heap.size w w1:=below_only ((((Below.refl w.heap.size w).alloc (Nat.le_refl _) _).alloc (by simp) _).alloc (by simp;omega) _) (by simp;omega) hg1 (by omega)
 have hs1:w.heap.size+3≤w1.heap.size:=by have:=hg1.size;simp at this;omega
 clear hg1
 rw [←hH] at hB1 hp1 hz1 hb1 hs1 hgc⊢
 have HH:=Lib.hid hH
 clear hH
 go_wp2_with fail
 go_loopg [5] 10 (RoundRel w H gc key s)
 case atStart=>
  obtain ⟨z,hz,hr⟩:=hz1
  exact ⟨1,_,by omega,by omega,rfl,hs1,Blk.new _ _ _,hp1.alloc _,hB1.alloc _,⟨z,hz,hr.alloc _⟩,hc1.alloc _,hb1.alloc (by omega) _⟩
 case round=>
  clear hB1 hp1 hz1 hb1 hs1 hc1
  obtain ⟨n,R,hf,hn1,rfl,hh⟩:=hrel
  have hcell:=hh.cell.rule 0
  by_cases hn:n<11
  ·have tn:decide ((n:Int)≤10)=true:=by simp;omega
   obtain ⟨t,ht⟩:∃t,t=encs key s (n-1):=⟨_,rfl⟩
   rw [←ht] at hh
   have HT:=Lib.hid ht
   have HF:=Lib.hid hf
   clear ht hf
   go_wp2_with fail
   clear hcell
   obtain ⟨g0,rfl⟩:∃g:Nat,g=gk:=⟨_,rfl⟩
   go_loopg [19] 4 (InsRel w H gc n R key t)
   case atStart=>exact ⟨0,by omega,rfl,hh⟩
   case round=>
    clear hh
    obtain ⟨k,hf,rfl,hh⟩:=hrel
    by_cases hk:k<4
    ·have hcs:k=0∨k=1∨k=2∨k=3:=by omega
     have hptr:wr.cell? ⟨H,0,none⟩=some (.pointer (some ⟨gc,0,none⟩)):=hh.ptr.cell rfl
     have hcell:wr.cell? ⟨R,0,none⟩=some (.int .i64 (n:Int)):=hh.cell.cell rfl
     have HHc:=Lib.hid hptr
     have HHd:=Lib.hid hcell
     clear hptr hcell
     rcases hcs with rfl|rfl|rfl|rfl
     ·have hix:∀W:World,(Instr.index 243 (.agg #[Value.func (Fn.func 171) #[] #[.pointer (some ⟨H+1,0,none⟩),.pointer (some ⟨H,0,none⟩)],Value.func (Fn.func 173) #[] #[.pointer (some ⟨H+1,0,none⟩)],Value.func (Fn.func 175) #[] #[.pointer (some ⟨R,0,none⟩),.pointer (some ⟨H+1,0,none⟩)],Value.func (Fn.func 177) #[] #[.pointer (some ⟨H,0,none⟩),.pointer (some ⟨H+1,0,none⟩),.pointer (some ⟨R,0,none⟩)]]) (.int .i64 0)).run Tryz.prog W= .ok (Value.func (Fn.func 171) #[] #[.pointer (some ⟨H+1,0,none⟩),.pointer (some ⟨H,0,none⟩)]) W:=fun W=>run_index_arr (P:=Tryz.prog) (kk:= .i64) Tryz.underlying243 Tryz.underlying1 rfl funcInfo W _ 0 _ rfl (by omega)
      go_wp2_with (go_at_call 171;refine (step1_any (H+1) gc H (ins key n t 0) key _ hh.blk hh.key HHc.out).mono ?_;rintro e w' ⟨rfl,h1,h2⟩)
      go_roundg (gk-1)
      case rel=>exact ⟨1,by omega,rfl,hh.step hgc h1 h2⟩
      case measure=>omega
     ·have hix:∀W:World,(Instr.index 243 (.agg #[Value.func (Fn.func 171) #[] #[.pointer (some ⟨H+1,0,none⟩),.pointer (some ⟨H,0,none⟩)],Value.func (Fn.func 173) #[] #[.pointer (some ⟨H+1,0,none⟩)],Value.func (Fn.func 175) #[] #[.pointer (some ⟨R,0,none⟩),.pointer (some ⟨H+1,0,none⟩)],Value.func (Fn.func 177) #[] #[.pointer (some ⟨H,0,none⟩),.pointer (some ⟨H+1,0,none⟩),.pointer (some ⟨R,0,none⟩)]]) (.int .i64 1)).run Tryz.prog W= .ok (Value.func (Fn.func 173) #[] #[.pointer (some ⟨H+1,0,none⟩)]) W:=fun W=>run_index_arr (P:=Tryz.prog) (kk:= .i64) Tryz.underlying243 Tryz.underlying1 rfl funcInfo W _ 1 _ rfl (by omega)
      go_wp2_with (go_at_call 173;refine (step2_any (H+1) (ins key n t 1) _ hh.blk).mono ?_;rintro e w' ⟨rfl,h1,h2⟩)
      go_roundg (gk-1)
      case rel=>exact ⟨2,by omega,rfl,hh.step hgc h1 h2⟩
      case measure=>omega
     ·have hix:∀W:World,(Instr.index 243 (.agg #[Value.func (Fn.func 171) #[] #[.pointer (some ⟨H+1,0,none⟩),.pointer (some ⟨H,0,none⟩)],Value.func (Fn.func 173) #[] #[.pointer (some ⟨H+1,0,none⟩)],Value.func (Fn.func 175) #[] #[.pointer (some ⟨R,0,none⟩),.pointer (some ⟨H+1,0,none⟩)],Value.func (Fn.func 177) #[] #[.pointer (some ⟨H,0,none⟩),.pointer (some ⟨H+1,0,none⟩),.pointer (some ⟨R,0,none⟩)]]) (.int .i64 2)).run Tryz.prog W= .ok (Value.func (Fn.func 175) #[] #[.pointer (some ⟨R,0,none⟩),.pointer (some ⟨H+1,0,none⟩)]) W:=fun W=>run_index_arr (P:=Tryz.prog) (kk:= .i64) Tryz.underlying243 Tryz.underlying1 rfl funcInfo W _ 2 _ rfl (by omega)
      go_wp2_with (go_at_call 175;refine (step3_any (H+1) R n (ins key n t 2) _ hh.blk HHd.out).mono ?_;rintro e w' ⟨rfl,h1,h2⟩)
      go_roundg (gk-1)
      case rel=>exact ⟨3,by omega,rfl,hh.step hgc h1 h2⟩
      case measure=>omega
     ·have hix:∀W:World,(Instr.index 243 (.agg #[Value.func (Fn.func 171) #[] #[.pointer (some ⟨H+1,0,none⟩),.pointer (some ⟨H,0,none⟩)],Value.func (Fn.func 173) #[] #[.pointer (some ⟨H+1,0,none⟩)],Value.func (Fn.func 175) #[] #[.pointer (some ⟨R,0,none⟩),.pointer (some ⟨H+1,0,none⟩)],Value.func (Fn.func 177) #[] #[.pointer (some ⟨H,0,none⟩),.pointer (some ⟨H+1,0,none⟩),.pointer (some ⟨R,0,none⟩)]]) (.int .i64 3)).run Tryz.prog W= .ok (Value.func (Fn.func 177) #[] #[.pointer (some ⟨H,0,none⟩),.pointer (some ⟨H+1,0,none⟩),.pointer (some ⟨R,0,none⟩)]) W:=fun W=>run_index_arr (P:=Tryz.prog) (kk:= .i64) Tryz.underlying243 Tryz.underlying1 rfl funcInfo W _ 3 _ rfl (by omega)
      go_wp2_with (go_at_call 177;refine (step4_any (H+1) gc H R n (ins key n t 3) key _ hn hh.blk hh.key HHc.out HHd.out).mono ?_;rintro e w' ⟨rfl,h1,h2⟩)
      go_roundg (gk-1)
      case rel=>exact ⟨4,by omega,rfl,hh.step hgc h1 h2⟩
      case measure=>omega
    ·obtain rfl:k=4:=by omega
     have hcell:wr.cell? ⟨R,0,none⟩=some (.int .i64 (n:Int)):=hh.cell.cell rfl
     obtain ⟨hp,hc,hq,hb,⟨z,hz,hr⟩,hk,hl⟩:=hh
     have hs:R<wr.heap.size:=hc.lt
     have hpo:=Lib.hid hp
     clear hp
     go_wp2_with fail
     go_roundg (g0-1)
     case rel=>
      have hp:=hpo.out
      have hf:=HF.out
      refine ⟨n+1,wr.heap.size,by omega,by omega,rfl,by omega,?_,(hq.alloc _),?_,⟨z,hz,hr.alloc _⟩,hk.alloc _,hl.alloc (by omega) _⟩
      ·rw [show (((n+1:Nat)):Int)=(n:Int)+1 by omega]
       exact Blk.new _ _ _
      ·have e:ins key n t 4=encs key s (n+1-1):=by
        obtain ⟨m,rfl⟩:∃m,n=m+1:=⟨n-1,by omega⟩
        have:=HT.out
        simp only [Nat.add_sub_cancel] at this⊢
        rw [encs,←this];rfl
       rw [←e]
       exact hb.alloc _
     case measure=>have hf:=HF.out;omega
  ·obtain rfl:n=11:=by omega
   have tn:decide (((11:Nat):Int)≤10)=false:=by simp
   obtain ⟨hp,hc,hq,hb,⟨z,hz,hr⟩,hk,hl⟩:=hh
   have hcell:wr.cell? ⟨R,0,none⟩=some (.int .i64 11):=hc.cell rfl
   clear hp hk
   go_wp2_with (first|refine wpList_load_blk rfl 169 agg16 _ rfl rfl hb (fA_size _ _) ?_|refine wpList_store_blk rfl 169 agg16 (.tmp 4) _ (cells:=fA 16 (encs key s (11-1))) rfl rfl rfl hr (fA_size _ _) hz (fA_one _ _) ?_)
   refine post_blk rfl agg16 rfl (hr.setRow _) (fA_size _ _) rfl ⟨rfl,?_⟩
   rw [HH.out] at hl⊢
   exact below_setRow hl (by omega) _
end
end Go.Proofs.YtioigihakjlopaaGreat
