/- Texts put together and cut to what is used: AesBlock, AesStream. -/
import Derived.Test.YtioigihakjlopaaGreatVK04
import Derived.Test.YtioigihakjlopaaGreatVK25
namespace Go.Proofs.YtioigihakjlopaaGreat
set_option linter.unusedVariables false
set_option linter.unusedSimpArgs false
section
open Go.RowKit
attribute [local go_sem] bits_xor_B8 bits_and_B8 bits_or_B8 ofInt_B8
theorem tb_bx (s:Nat→BitVec 8):(tb 16 fun j=>bx (bn (s j).toNat))=thr bx s:=tb_eq fun j _=>by rw [bn_toNat]
theorem through_bx (gb gc:Nat) (s key:Nat→BitVec 8) (w:World) (hB:Blk w gb (fA 16 s) 169) (hC:Blk w gc (fA 688 (cph key)) 233):
  Calls Tryz.prog 172 #[.pointer (some ⟨gb,0,none⟩),.pointer (some ⟨gc,0,none⟩)] w fun e w'=>
   e= .returned (.tuple #[])∧Blk w' gb (fA 16 (thr bx s)) 169∧w.grownBy w' (some gb):=by
 have:=through_any gb gc 0 s (fun i=>bx (bn i)) w hB (Blk.ne hB hC (by decide)) (fun i hi=>by rw [Nat.zero_add];exact hC.atF (by omega) (cph_box key i hi))
 rw [tb_bx] at this
 exact this
theorem key_rk (gb gc r:Nat) (s key:Nat→BitVec 8) (w:World) (hr:r<11) (hB:Blk w gb (fA 16 s) 169) (hC:Blk w gc (fA 688 (cph key)) 233):
  Calls Tryz.prog 170 #[.pointer (some ⟨gc,0,none⟩),.pointer (some ⟨gb,0,none⟩),.int .i64 (r:Int)] w fun e w'=>
   e= .returned (.tuple #[])∧Blk w' gb (fA 16 (sx s (rk key r))) 169∧w.grownBy w' (some gb):=
 key_any gb gc r s (rk key r) w hB (Blk.ne hB hC (by decide)) hr (fun i hi=>hC.atF (by omega) (cph_key key r i hr hi))
set_option maxHeartbeats 400000 in
theorem step1_any (gb gc gp:Nat) (s key:Nat→BitVec 8) (w:World) (hB:Blk w gb (fA 16 s) 169) (hC:Blk w gc (fA 688 (cph key)) 233) (hP:w.cell? ⟨gp,0,none⟩=some (.pointer (some ⟨gc,0,none⟩))):
  Calls Tryz.prog 171 #[.pointer (some ⟨gb,0,none⟩),.pointer (some ⟨gp,0,none⟩)] w fun e w'=>
   e= .returned (.tuple #[])∧Blk w' gb (fA 16 (thr bx s)) 169∧w.grownBy w' (some gb):=by
 go_enter Tryz.func171,Tryz.ntmps171
 go_wp2_with (go_at_call 172;refine (through_bx gb gc s key _ hB hC).mono ?_;rintro e w' ⟨rfl,h1,h2⟩)
 go_end0
 exact ⟨rfl,h1,h2⟩
set_option maxHeartbeats 400000 in
theorem step2_any (gb:Nat) (s:Nat→BitVec 8) (w:World) (hB:Blk w gb (fA 16 s) 169):
  Calls Tryz.prog 173 #[.pointer (some ⟨gb,0,none⟩)] w fun e w'=>
   e= .returned (.tuple #[])∧Blk w' gb (fA 16 (trn s)) 169∧w.grownBy w' (some gb):=by
 go_enter Tryz.func173,Tryz.ntmps173
 go_wp2_with (go_at_call 174;refine (turn_forth gb s _ hB).mono ?_;rintro e w' ⟨rfl,h1,h2⟩)
 go_end0
 exact ⟨rfl,h1,h2⟩
set_option maxHeartbeats 400000 in
theorem step3_any (gb gr r:Nat) (s:Nat→BitVec 8) (w:World) (hB:Blk w gb (fA 16 s) 169) (hR:w.cell? ⟨gr,0,none⟩=some (.int .i64 (r:Int))):
  Calls Tryz.prog 175 #[.pointer (some ⟨gr,0,none⟩),.pointer (some ⟨gb,0,none⟩)] w fun e w'=>
   e= .returned (.tuple #[])∧Blk w' gb (fA 16 (if r<10 then mx mE s else s)) 169∧w.grownBy w' (some gb):=by
 by_cases h:r<10
 ·have t:decide ((r:Int)<10)=true:=by simp;omega
  rw [if_pos h]
  go_enter Tryz.func175,Tryz.ntmps175
  go_wp2_with (go_at_call 176;refine (mix_any gb mE s _ hB).mono ?_;rintro e w' ⟨rfl,h1,h2⟩)
  go_end0
  exact ⟨rfl,h1,h2⟩
 ·have t:decide ((r:Int)<10)=false:=by simp;omega
  rw [if_neg h]
  go_enter Tryz.func175,Tryz.ntmps175
  go_wp2_with fail
  go_end0
  exact ⟨rfl,hB,World.grownBy.refl _ _⟩
set_option maxHeartbeats 400000 in
theorem step4_any (gb gc gp gr r:Nat) (s key:Nat→BitVec 8) (w:World) (hr:r<11) (hB:Blk w gb (fA 16 s) 169) (hC:Blk w gc (fA 688 (cph key)) 233) (hP:w.cell? ⟨gp,0,none⟩=some (.pointer (some ⟨gc,0,none⟩))) (hR:w.cell? ⟨gr,0,none⟩=some (.int .i64 (r:Int))):
  Calls Tryz.prog 177 #[.pointer (some ⟨gp,0,none⟩),.pointer (some ⟨gb,0,none⟩),.pointer (some ⟨gr,0,none⟩)] w fun e w'=>
   e= .returned (.tuple #[])∧Blk w' gb (fA 16 (sx s (rk key r))) 169∧w.grownBy w' (some gb):=by
 go_enter Tryz.func177,Tryz.ntmps177
 go_wp2_with (go_at_call 170;refine (key_rk gb gc r s key _ hr hB hC).mono ?_;rintro e w' ⟨rfl,h1,h2⟩)
 go_end0
 exact ⟨rfl,h1,h2⟩
def ins (key:Nat→BitVec 8) (r:Nat) (s:Nat→BitVec 8):Nat→Nat→BitVec 8
 |0=>s
 |1=>thr bx s
 |2=>trn (thr bx s)
 |3=>if r<10 then mx mE (trn (thr bx s)) else trn (thr bx s)
 |_=>rnd key r s
structure HeldA (w:World) (H gc n R:Nat) (key t:Nat→BitVec 8) (wr:World):Prop where
 pos:H+3≤R
 cell:Blk wr R #[.int .i64 (n:Int)] 3
 ptr:Blk wr H #[.pointer (some ⟨gc,0,none⟩)] 201
 blk:Blk wr (H+1) (fA 16 t) 169
 res:∃z:Array Value,z.size=16∧Blk wr (H+2) z 169
 key:Blk wr gc (fA 688 (cph key)) 233
 bel:Below H w wr
theorem HeldA.step {w:World} {H gc n R:Nat} {key t u:Nat→BitVec 8} {wr w':World} (h:HeldA w H gc n R key t wr) (hgc:gc<H) (hB:Blk w' (H+1) (fA 16 u) 169) (hg:wr.grownBy w' (some (H+1))):HeldA w H gc n R key u w':=by
 obtain ⟨hp,hc,hq,hb,⟨z,hz,hr⟩,hk,hl⟩:=h
 have hs:H≤wr.heap.size:=by have:=hc.lt;omega
 exact ⟨hp,hc.grown hg (by simp;omega),hq.grown hg (by simp),hB,⟨z,hz,hr.grown hg (by simp)⟩,hk.grown hg (by simp;omega),below_only hl hs hg (by omega)⟩
def RoundRel (w:World) (H gc:Nat) (key s:Nat→BitVec 8) (f:Nat) (p:Value) (wr:World):Prop:=
 ∃n R:Nat,f+n=11∧1≤n∧p= .pointer (some ⟨R,0,none⟩)∧HeldA w H gc n R key (encs key s (n-1)) wr
def InsRel (w:World) (H gc n R:Nat) (key t:Nat→BitVec 8) (f:Nat) (i:Value) (wr:World):Prop:=
 ∃k:Nat,f+k=4∧i= .int .i64 (k:Int)∧HeldA w H gc n R key (ins key n t k) wr
theorem funcInfo:(Tryz.prog.info? 1).map (·.size)=some 1:=by kernel_rfl
set_option maxHeartbeats 2000000 in
set_option maxRecDepth 100000 in
theorem ablock_any (gc:Nat) (s key:Nat→BitVec 8) (w:World) (hC:Blk w gc (fA 688 (cph key)) 233):
  Calls Tryz.prog 141 #[.pointer (some ⟨gc,0,none⟩),.agg (fA 16 s)] w fun e w'=>
   e= .returned (.agg (fA 16 (enc key s)))∧Below w.heap.size w w':=by
 have hgc:=hC.lt
 go_enter Tryz.func141,Tryz.ntmps141
 go_wp2_with fail
 refine (key_rk (w.heap.size+1) gc 0 s key _ (by omega) ((Blk.new2' _ _ _ _).alloc _) (((hC.alloc _).alloc _).alloc _)).mono ?_
 rintro e w1 ⟨rfl,hB1,hg1⟩
 obtain ⟨H,hH⟩:∃H,H=w.heap.size:=⟨_,rfl⟩
 have hc1:=(((hC.alloc _).alloc _).alloc _).grown hg1 (by simp;omega)
 have hp1:Blk w1 w.heap.size #[.pointer (some ⟨gc,0,none⟩)] 201:=(Blk.new3 w _ _ _ _).grown hg1 (by simp)
 have hz1:∃z:Array Value,z.size=16∧Blk w1 (w.heap.size+2) z 169:=⟨_,rfl,(Blk.new3'' w #[.int .u8 0,.int .u8 0,.int .u8 0,.int .u8 0,.int .u8 0,.int .u8 0,.int .u8 0,.int .u8 0,.int .u8 0,.int .u8 0,.int .u8 0,.int .u8 0,.int .u8 0,.int .u8 0,.int .u8 0,.int .u8 0] _ _ _).grown hg1 (by simp)⟩
 have hb1:Below w.heap.size w w1:=below_only ((((Below.refl w.heap.size w).alloc (Nat.le_refl _) _).alloc (by simp) _).alloc (by simp;omega) _) (by simp;omega) hg1 (by omega)
 have hs1:w.heap.size+3≤w1.heap.size:=by have:=hg1.size;simp at this;omega
 clear hg1
 rw [←hH] at hB1 hp1 hz1 hb1 hs1 hgc⊢
 have HH:=Lib.hid hH
 clear hH
 go_wp2_with fail
 go_loopg [5] 10 (RoundRel w H gc key s)
 case atStart=>
  obtain ⟨z,hz,hr⟩:=hz1
  exact ⟨1,_,by omega,by omega,rfl,hs1,Blk.new _ _ _,hp1.alloc _,hB1.alloc _,⟨z,hz,hr.alloc _⟩,hc1.alloc _,hb1.alloc (by omega) _⟩
 case round=>
  clear hB1 hp1 hz1 hb1 hs1 hc1
  obtain ⟨n,R,hf,hn1,rfl,hh⟩:=hrel
  have hcell:=hh.cell.rule 0
  by_cases hn:n<11
  ·have tn:decide ((n:Int)≤10)=true:=by simp;omega
   obtain ⟨t,ht⟩:∃t,t=encs key s (n-1):=⟨_,rfl⟩
   rw [←ht] at hh
   have HT:=Lib.hid ht
   have HF:=Lib.hid hf
   clear ht hf
   go_wp2_with fail
   clear hcell
   obtain ⟨g0,rfl⟩:∃g:Nat,g=gk:=⟨_,rfl⟩
   go_loopg [19] 4 (InsRel w H gc n R key t)
   case atStart=>exact ⟨0,by omega,rfl,hh⟩
   case round=>
    clear hh
    obtain ⟨k,hf,rfl,hh⟩:=hrel
    by_cases hk:k<4
    ·have hcs:k=0∨k=1∨k=2∨k=3:=by omega
     have hptr:wr.cell? ⟨H,0,none⟩=some (.pointer (some ⟨gc,0,none⟩)):=hh.ptr.cell rfl
     have hcell:wr.cell? ⟨R,0,none⟩=some (.int .i64 (n:Int)):=hh.cell.cell rfl
     have HHc:=Lib.hid hptr
     have HHd:=Lib.hid hcell
     clear hptr hcell
     rcases hcs with rfl|rfl|rfl|rfl
     ·have hix:∀W:World,(Instr.index 243 (.agg #[Value.func (Fn.func 171) #[] #[.pointer (some ⟨H+1,0,none⟩),.pointer (some ⟨H,0,none⟩)],Value.func (Fn.func 173) #[] #[.pointer (some ⟨H+1,0,none⟩)],Value.func (Fn.func 175) #[] #[.pointer (some ⟨R,0,none⟩),.pointer (some ⟨H+1,0,none⟩)],Value.func (Fn.func 177) #[] #[.pointer (some ⟨H,0,none⟩),.pointer (some ⟨H+1,0,none⟩),.pointer (some ⟨R,0,none⟩)]]) (.int .i64 0)).run Tryz.prog W= .ok (Value.func (Fn.func 171) #[] #[.pointer (some ⟨H+1,0,none⟩),.pointer (some ⟨H,0,none⟩)]) W:=fun W=>run_index_arr (P:=Tryz.prog) (kk:= .i64) Tryz.underlying243 Tryz.underlying1 rfl funcInfo W _ 0 _ rfl (by omega)
      go_wp2_with (go_at_call 171;refine (step1_any (H+1) gc H (ins key n t 0) key _ hh.blk hh.key HHc.out).mono ?_;rintro e w' ⟨rfl,h1,h2⟩)
      go_roundg (gk-1)
      case rel=>exact ⟨1,by omega,rfl,hh.step hgc h1 h2⟩
      case measure=>omega
     ·have hix:∀W:World,(Instr.index 243 (.agg #[Value.func (Fn.func 171) #[] #[.pointer (some ⟨H+1,0,none⟩),.pointer (some ⟨H,0,none⟩)],Value.func (Fn.func 173) #[] #[.pointer (some ⟨H+1,0,none⟩)],Value.func (Fn.func 175) #[] #[.pointer (some ⟨R,0,none⟩),.pointer (some ⟨H+1,0,none⟩)],Value.func (Fn.func 177) #[] #[.pointer (some ⟨H,0,none⟩),.pointer (some ⟨H+1,0,none⟩),.pointer (some ⟨R,0,none⟩)]]) (.int .i64 1)).run Tryz.prog W= .ok (Value.func (Fn.func 173) #[] #[.pointer (some ⟨H+1,0,none⟩)]) W:=fun W=>run_index_arr (P:=Tryz.prog) (kk:= .i64) Tryz.underlying243 Tryz.underlying1 rfl funcInfo W _ 1 _ rfl (by omega)
      go_wp2_with (go_at_call 173;refine (step2_any (H+1) (ins key n t 1) _ hh.blk).mono ?_;rintro e w' ⟨rfl,h1,h2⟩)
      go_roundg (gk-1)
      case rel=>exact ⟨2,by omega,rfl,hh.step hgc h1 h2⟩
      case measure=>omega
     ·have hix:∀W:World,(Instr.index 243 (.agg #[Value.func (Fn.func 171) #[] #[.pointer (some ⟨H+1,0,none⟩),.pointer (some ⟨H,0,none⟩)],Value.func (Fn.func 173) #[] #[.pointer (some ⟨H+1,0,none⟩)],Value.func (Fn.func 175) #[] #[.pointer (some ⟨R,0,none⟩),.pointer (some ⟨H+1,0,none⟩)],Value.func (Fn.func 177) #[] #[.pointer (some ⟨H,0,none⟩),.pointer (some ⟨H+1,0,none⟩),.pointer (some ⟨R,0,none⟩)]]) (.int .i64 2)).run Tryz.prog W= .ok (Value.func (Fn.func 175) #[] #[.pointer (some ⟨R,0,none⟩),.pointer (some ⟨H+1,0,none⟩)]) W:=fun W=>run_index_arr (P:=Tryz.prog) (kk:= .i64) Tryz.underlying243 Tryz.underlying1 rfl funcInfo W _ 2 _ rfl (by omega)
      go_wp2_with (go_at_call 175;refine (step3_any (H+1) R n (ins key n t 2) _ hh.blk HHd.out).mono ?_;rintro e w' ⟨rfl,h1,h2⟩)
      go_roundg (gk-1)
      case rel=>exact ⟨3,by omega,rfl,hh.step hgc h1 h2⟩
      case measure=>omega
     ·have hix:∀W:World,(Instr.index 243 (.agg #[Value.func (Fn.func 171) #[] #[.pointer (some ⟨H+1,0,none⟩),.pointer (some ⟨H,0,none⟩)],Value.func (Fn.func 173) #[] #[.pointer (some ⟨H+1,0,none⟩)],Value.func (Fn.func 175) #[] #[.pointer (some ⟨R,0,none⟩),.pointer (some ⟨H+1,0,none⟩)],Value.func (Fn.func 177) #[] #[.pointer (some ⟨H,0,none⟩),.pointer (some ⟨H+1,0,none⟩),.pointer (some ⟨R,0,none⟩)]]) (.int .i64 3)).run Tryz.prog W= .ok (Value.func (Fn.func 177) #[] #[.pointer (some ⟨H,0,none⟩),.pointer (some ⟨H+1,0,none⟩),.pointer (some ⟨R,0,none⟩)]) W:=fun W=>run_index_arr (P:=Tryz.prog) (kk:= .i64) Tryz.underlying243 Tryz.underlying1 rfl funcInfo W _ 3 _ rfl (by omega)
      go_wp2_with (go_at_call 177;refine (step4_any (H+1) gc H R n (ins key n t 3) key _ hn hh.blk hh.key HHc.out HHd.out).mono ?_;rintro e w' ⟨rfl,h1,h2⟩)
      go_roundg (gk-1)
      case rel=>exact ⟨4,by omega,rfl,hh.step hgc h1 h2⟩
      case measure=>omega
    ·obtain rfl:k=4:=by omega
     have hcell:wr.cell? ⟨R,0,none⟩=some (.int .i64 (n:Int)):=hh.cell.cell rfl
     obtain ⟨hp,hc,hq,hb,⟨z,hz,hr⟩,hk,hl⟩:=hh
     have hs:R<wr.heap.size:=hc.lt
     have hpo:=Lib.hid hp
     clear hp
     go_wp2_with fail
     go_roundg (g0-1)
     case rel=>
      have hp:=hpo.out
      have hf:=HF.out
      refine ⟨n+1,wr.heap.size,by omega,by omega,rfl,by omega,?_,(hq.alloc _),?_,⟨z,hz,hr.alloc _⟩,hk.alloc _,hl.alloc (by omega) _⟩
      ·rw [show (((n+1:Nat)):Int)=(n:Int)+1 by omega]
       exact Blk.new _ _ _
      ·have e:ins key n t 4=encs key s (n+1-1):=by
        obtain ⟨m,rfl⟩:∃m,n=m+1:=⟨n-1,by omega⟩
        have:=HT.out
        simp only [Nat.add_sub_cancel] at this⊢
        rw [encs,←this];rfl
       rw [←e]
       exact hb.alloc _
     case measure=>have hf:=HF.out;omega
  ·obtain rfl:n=11:=by omega
   have tn:decide (((11:Nat):Int)≤10)=false:=by simp
   obtain ⟨hp,hc,hq,hb,⟨z,hz,hr⟩,hk,hl⟩:=hh
   have hcell:wr.cell? ⟨R,0,none⟩=some (.int .i64 11):=hc.cell rfl
   clear hp hk
   go_wp2_with (first|refine wpList_load_blk rfl 169 agg16 _ rfl rfl hb (fA_size _ _) ?_|refine wpList_store_blk rfl 169 agg16 (.tmp 4) _ (cells:=fA 16 (encs key s (11-1))) rfl rfl rfl hr (fA_size _ _) hz (fA_one _ _) ?_)
   refine post_blk rfl agg16 rfl (hr.setRow _) (fA_size _ _) rfl ⟨rfl,?_⟩
   rw [HH.out] at hl⊢
   exact below_setRow hl (by omega) _
end
section
open Go.RowKit
attribute [local go_sem] bits_xor_B8 bits_and_B8 bits_or_B8 ofInt_B8
def ctr (nonce:Nat→BitVec 8) (q:Nat):Nat→BitVec 8:=fun j=>if j<12 then nonce j else BitVec.ofNat 8 (q/2^(24-8*(j-12)))
def ksb (key nonce:Nat→BitVec 8) (i:Nat):BitVec 8:=enc key (ctr nonce (i/16)) (i%16)
def stk (key nonce:Nat→BitVec 8) (l:List UInt8) (k:Nat):List UInt8:=(List.range k).map fun i=>⟨(l.getD i 0).toBitVec^^^ksb key nonce i⟩
def stm (key nonce:Nat→BitVec 8) (l:List UInt8):List UInt8:=stk key nonce l l.length
theorem stk_snoc (key nonce:Nat→BitVec 8) (l:List UInt8) (k:Nat):stk key nonce l (k+1)=stk key nonce l k++ [⟨(l.getD k 0).toBitVec^^^ksb key nonce k⟩]:=by
 simp [stk,List.range_succ]
theorem stk_length (key nonce:Nat→BitVec 8) (l:List UInt8) (k:Nat):(stk key nonce l k).length=k:=by simp [stk]
theorem stm_length (key nonce:Nat→BitVec 8) (l:List UInt8):(stm key nonce l).length=l.length:=stk_length _ _ _ _
theorem stm_stm (key nonce:Nat→BitVec 8) (l:List UInt8):stm key nonce (stm key nonce l)=l:=by
 apply List.ext_getElem
 ·rw [stm_length,stm_length]
 ·intro i h1 h2
  simp only [stm,stk,List.getElem_map,List.getElem_range,List.length_map,List.length_range]
  rw [List.getD_eq_getElem?_getD,List.getElem?_eq_getElem (by simpa using h2)]
  simp only [Option.getD_some,List.getElem_map,List.getElem_range]
  rw [BitVec.xor_assoc,BitVec.xor_self,BitVec.xor_zero,List.getD_eq_getElem?_getD,List.getElem?_eq_getElem h2]
  rfl
theorem bytesT5:RowType Tryz.prog 22 5 1 1:=RowType.mk (z:= .int .u8 0) Tryz.underlying22 (by kernel_rfl) rfl (by omega)
theorem agg12:AggT Tryz.prog 175 12:=⟨⟨_,Tryz.underlying175,rfl⟩,by kernel_rfl⟩
theorem len12:Tryz.prog.arrayLen 175=12:=by kernel_rfl
theorem elem12:Tryz.prog.elem 175=5:=by kernel_rfl
theorem u8Sized (W:World):(sizeOf 5).run Tryz.prog W= .ok 1 W:=by
 have:=u8InfoA
 cases hq:Tryz.prog.info? 5 with
 |none=>simp [hq] at this
 |some i=>simp [hq] at this;simp [sizeOf,typeInfo,hq,this]
theorem all12 (b:Nat) (W:World):(Instr.sliceAt 175 (.pointer (some ⟨b,0,none⟩)) none none none).run Tryz.prog W= .ok (.slice (some ⟨b,0,none⟩) 12 12) W:=by
 have ht:Tryz.prog.underlying 175=some (.array (Tryz.prog.arrayLen 175) (Tryz.prog.elem 175)):=by rw [len12,elem12];exact Tryz.underlying175
 rw [run_sliceAt_array_all W _ _ ht,elem12,u8Sized,len12]
 simp [slicedAt];rfl
theorem all16 (b:Nat) (W:World):(Instr.sliceAt 169 (.pointer (some ⟨b,0,none⟩)) none none none).run Tryz.prog W= .ok (.slice (some ⟨b,0,none⟩) 16 16) W:=by
 have ht:Tryz.prog.underlying 169=some (.array (Tryz.prog.arrayLen 169) (Tryz.prog.elem 169)):=by rw [len16,elem16];exact Tryz.underlying169
 rw [run_sliceAt_array_all W _ _ ht,elem16,u8Sized,len16]
 simp [slicedAt];rfl
theorem splice_nonce (nonce:Nat→BitVec 8):splice (fA 16 fun _=>0#8) 0 (fL 12 nonce).toArray=fA 16 fun j=>if j<12 then nonce j else 0#8:=by
 have:=fA_splice (n:=16) (o:=0) (m:=12) (fun _=>0#8) nonce (by omega)
 rw [show (fL 12 nonce).toArray=fA 12 nonce from rfl,this]
 exact fA_eq fun i _=>by simp
structure StIn (w:World) (H g X Y:Nat) (key nonce:Nat→BitVec 8) (l:List UInt8) (k:Nat) (oa:Option Addr) (oc:Nat) (xs ys:Nat→BitVec 8) (wr:World):Prop where
 own:Own wr H 5 1 oa k oc ((stk key nonce l k).map bv)
 cph:Blk wr g (fA 688 (cph key)) 233
 x:Blk wr X (fA 16 xs) 169
 y:Blk wr Y (fA 16 ys) 169
 below:Below H w wr
def StRel (w:World) (H g X Y:Nat) (key nonce:Nat→BitVec 8) (l:List UInt8) (f:Nat) (o i:Value) (wr:World):Prop:=
 ∃(k:Nat) (oa:Option Addr) (oc:Nat) (xs ys:Nat→BitVec 8),f+k=l.length∧i= .int .i64 (k:Int)∧o= .slice oa k oc∧(∀j,j<12→xs j=nonce j)∧(k%16≠0→∀j,j<16→ys j=enc key (ctr nonce (k/16)) j)∧StIn w H g X Y key nonce l k oa oc xs ys wr
def CtRel (w:World) (H g X Y:Nat) (key nonce:Nat→BitVec 8) (l:List UInt8) (k:Nat) (oa:Option Addr) (oc:Nat) (xs ys:Nat→BitVec 8) (f:Nat) (j:Value) (wr:World):Prop:=
 ∃m:Nat,f+m=4∧j= .int .i64 (m:Int)∧StIn w H g X Y key nonce l k oa oc (fun i=>if i<12 then nonce i else if i<12+m then ctr nonce (k/16) i else xs i) ys wr
theorem ctr_nat (nonce:Nat→BitVec 8) (k m p:Nat) (hp:p=2^(24-8*m)):B8 (ctr nonce (k/16) (12+m))=((k/16/p%256:Nat):Int):=by
 rw [ctr,if_neg (by omega),show 12+m-12=m by omega,←hp]
 show (((BitVec.ofNat 8 (k/16/p)).toNat:Nat):Int)=_
 rw [BitVec.toNat_ofNat]
theorem ctr_b0 (nonce:Nat→BitVec 8) (k:Nat) (_h:k<65536):(k:Int)/16/16777216=B8 (ctr nonce (k/16) (12+0)):=by rw [ctr_nat nonce k 0 16777216 rfl];omega
theorem ctr_b1 (nonce:Nat→BitVec 8) (k:Nat) (_h:k<65536):(k:Int)/16/65536=B8 (ctr nonce (k/16) (12+1)):=by rw [ctr_nat nonce k 1 65536 rfl];omega
theorem ctr_b2 (nonce:Nat→BitVec 8) (k:Nat) (_h:k<65536):(k:Int)/16/256=B8 (ctr nonce (k/16) (12+2)):=by rw [ctr_nat nonce k 2 256 rfl];omega
theorem ctr_b3 (nonce:Nat→BitVec 8) (k:Nat):(k:Int)/16%256=B8 (ctr nonce (k/16) (12+3)):=by rw [ctr_nat nonce k 3 1 rfl];omega
theorem ctr_b3' (nonce:Nat→BitVec 8) (k:Nat):(k:Int)/16/1%256=B8 (ctr nonce (k/16) (12+3)):=by rw [ctr_nat nonce k 3 1 rfl];omega
theorem ct_step {wr:World} {X k m:Nat} {nonce xs:Nat→BitVec 8} {z:Int} (hm:m<4) (_hk:12+m<16) (h:Blk wr X (fA 16 (fun i=>if i<12 then nonce i else if i<12+m then ctr nonce (k/16) i else xs i)) 169)
  (hz:z=B8 (ctr nonce (k/16) (12+m))):Blk (wr.setCell ⟨X,12+m,none⟩ (.int .u8 z)) X (fA 16 (fun i=>if i<12 then nonce i else if i<12+(m+1) then ctr nonce (k/16) i else xs i)) 169:=by
 subst hz
 refine (h.setF (by omega) (ctr nonce (k/16) (12+m))).ofF fun i hi=> ?_
 by_cases e:i=12+m
 ·subst e;rw [if_pos rfl,if_neg (by omega),if_pos (by omega)]
 ·rw [if_neg e]
  by_cases h2:i<12
  ·rw [if_pos h2,if_pos h2]
  ·rw [if_neg h2,if_neg h2]
   by_cases h3:i<12+m
   ·rw [if_pos h3,if_pos (by omega)]
   ·rw [if_neg h3,if_neg (by omega)]
theorem ctr_all (nonce xs:Nat→BitVec 8) {q:Nat} (i:Nat) (h:i<16):(if i<12 then nonce i else if i<12+4 then ctr nonce q i else xs i)=ctr nonce q i:=by
 by_cases h2:i<12
 ·rw [if_pos h2,ctr,if_pos h2]
 ·rw [if_neg h2,if_pos (by omega)]
theorem st_next {w:World} {H g X Y:Nat} {key nonce:Nat→BitVec 8} {l:List UInt8} {k f:Nat} {oa oa':Option Addr} {oc oc':Nat} {xs:Nat→BitVec 8} {w6 w7:World} (hk:k<l.length) (hf:f+k=l.length) (hH:H≤w6.heap.size)
  (hx:∀j,j<12→xs j=nonce j) (hin:StIn w H g X Y key nonce l k oa oc xs (enc key (ctr nonce (k/16))) w6) {cs:Array Value} {ty:TypeId}
  (hown:Own w7 H 5 1 oa' (k+1) oc' ((stk key nonce l k).map bv++ [.int .u8 (B8 (l[k].toBitVec^^^enc key (ctr nonce (k/16)) (k%16)))]))
  (hg:(w6.alloc (.cells cs ty)).grownBy w7 (Value.slice oa k oc).ownBlock):StRel w H g X Y key nonce l (f-1) (.slice oa' (k+1) oc') (.int .i64 ((k:Int)+1)) w7:=by
 have hG:l.getD k 0=l[k]:=by rw [List.getD_eq_getElem?_getD,List.getElem?_eq_getElem hk];rfl
 have kn:=KeepNot.grown (hin.own.alloc (.cells cs ty)) hg
 refine ⟨k+1,oa',oc',xs,enc key (ctr nonce (k/16)),by omega,by go_num,rfl,hx,fun h j _=> ?_,?_,(hin.cph.alloc _).keepNot kn (by decide),(hin.x.alloc _).keepNot kn (by decide),(hin.y.alloc _).keepNot kn (by decide),(hin.own.alloc _).grown (hin.below.alloc hH _) (Nat.le_refl _) hg (by simp;omega)⟩
 ·rw [show (k+1)/16=k/16 by omega]
 ·rw [stk_snoc,List.map_append,hG]
  exact hown
set_option maxHeartbeats 1000000 in
set_option maxRecDepth 100000 in
theorem stream_any (key nonce:Nat→BitVec 8) (a:Option Addr) (len cap:Nat) (l:List UInt8) (w:World) (hl:BytesAt w a l) (hlen:l.length=len) (hm:len≤65536):
  Calls Tryz.prog 112 #[.agg (fA 16 key),.agg (fA 12 nonce),.slice a len cap] w fun e w'=>∃a' c',e= .returned (.tuple #[.slice a' len c',.int .i64 0])∧Own w' w.heap.size 5 1 a' len c' ((stm key nonce l).map bv)∧Below w.heap.size w w':=by
 have t1:decide ((65536:Int)<(len:Int))=false:=by simp;omega
 obtain ⟨i0,hi0,hz0,hs0,hb0⟩:=info_parts (show (Tryz.prog.info? 5).map (fun i=>(i.zero,i.size,i.bytes))=some (some (.int .u8 0),1,1) by kernel_rfl)
 have HI:=Lib.hid hi0
 have HZ:=Lib.hid hz0
 have HS:=Lib.hid hs0
 have HB:=Lib.hid hb0
 have HL:=Lib.hid hlen
 clear hi0 hz0 hs0 hb0 hlen
 go_enter Tryz.func112,Tryz.ntmps112
 go_upto_region 3 with (fail)
 refine wp_forget (fun W0=>Blk W0 w.heap.size (fA 16 key) 169∧Blk W0 (w.heap.size+1) (fA 12 nonce) 175∧w.heap.size+2≤W0.heap.size∧Below w.heap.size w W0) ⟨Blk.new2 _ _ _ _,Blk.new2' _ _ _ _,by simp,by (try unfold Kept);repeat (first|assumption|exact Below.refl _ _|exact below_undrew (Below.refl _ _)|exact Below.mono (by assumption) (by first|(simp;done)|(simp;omega)|omega)|refine below_setRow ?_ (by first|(simp;done)|(simp;omega)|omega) _|refine Below.setCell ?_ (by first|(simp;done)|(simp;omega)|omega) _|refine Below.alloc ?_ (by first|(simp;done)|(simp;omega)|omega) _|refine below_drewN ?_ _|refine Below.drew ?_|refine below_undrew ?_|refine below_step ?_ (by assumption))⟩ ?_
 rintro w0 ⟨hK,hN,hs,hb⟩
 obtain ⟨H,hH⟩:∃H,H=w.heap.size:=⟨_,rfl⟩
 rw [←hH] at hK hN hs hb⊢
 have HH:=Lib.hid hH
 clear hH
 go_wp2_with (refine wpList_load_blk rfl 169 agg16 _ rfl rfl hK (fA_size _ _) ?_)
 refine (ready_any key _).mono ?_
 rintro e w1 ⟨g,rfl,hg,hC,hb1⟩
 have hb01:Below H w w1:=hb.trans (hb1.mono (by omega))
 have hs1:H+2≤w1.heap.size:=by have:=hb1.size;omega
 have hN1:=hN.old hb1
 have hg2:H+2≤g:=by omega
 clear hK hN hb hs hb1
 go_wp2_with (at_make;refine wpList_make_own _ rfl _ _ 22 rfl H 5 i0 (.int .u8 0) 1 Tryz.underlying22 HI.out HZ.out HS.out .i64 .i64 _ len rfl rfl rfl (by rw [HB.out];omega) (by unfold maxLen;omega) (by omega) ?_;intro w2 hown hgrow)
 obtain ⟨G,hG⟩:∃G,G=w1.heap.size:=⟨_,rfl⟩
 obtain ⟨X,hX⟩:∃X,X=w2.heap.size:=⟨_,rfl⟩
 have hs2:w1.heap.size≤w2.heap.size:=hgrow.size
 have hgX:g<X:=by have:=hC.lt;omega
 have hGg:H≤g:=by omega
 refine wp_forget (fun W0=>W0.heap.size=X+1∧Own W0 H 5 1 (some ⟨G,0,none⟩) 0 len []∧Blk W0 g (fA 688 (cph key)) 233∧Blk W0 (H+1) (fA 12 nonce) 175∧Blk W0 X (fA 16 fun _=>0#8) 169∧Below H w W0) ⟨by simp [hX],by rw [hG];exact Own.alloc hown _,(hC.grown hgrow (by simp)).alloc _,(hN1.grown hgrow (by simp)).alloc _,by rw [hX];exact Blk.new _ _ _,(hb01.grown hgrow (by omega) (by simp)).alloc (by omega) _⟩ ?_
 rw [←hG,←hX]
 have hHX:H+2≤X:=by omega
 clear hC hN1 hb01 hown hgrow hs1 hs2 hg hG hX
 rintro w3 ⟨hs,hO,hC,hN,hX,hb⟩
 have HS3:=Lib.hid hs
 clear hs
 have q1:=all16 X
 have q2:=all12 (H+1)
 refine wp_region_treeB X (.step 0 (.step 1 (.step 2 .done))) (by kernel_rfl) (by kernel_rfl) (fun c a d v w h=>by cases d<;>exact h) ?_
 repeat (first|(refine tree_skip rfl (by rfl) ?_;simp only [Act.put,List.setIfInBounds_toArray,List.set])|(refine tree_quiet (v:= ?_) rfl rfl (by rfl) ?_ ?_;rotate_left;(intro W hW;go_simp);(try with_reducible rfl);simp only [Act.put,List.setIfInBounds_toArray,List.set]))
 refine tree_loud rfl rfl (by rfl) (fun K hK=> ?_)
 refine wp_copy_row (.tmp 23) (.tmp 24) 22 22 rfl Tryz.underlying22 u8InfoA rfl rfl hX.drew (cs:=fL 12 nonce) (by rw [fL_length];rfl) (RowAt.src (vs:=fL 12 nonce) (RowAt.mk hN.drew.cells) 12|>fun h j v hv=>h j v (by rwa [List.take_of_length_le (by simp [fL_length])])) (by simp [fL_length,fA_size]) (by simp [fL,fv,Value.oneCell']) ?_
 refine hK _ _ (But.setRow _ _) ?_
 clear hK K q1 q2
 refine tree_done ?_
 rw [splice_nonce]
 go_wp2_with fail
 rw [HS3.out]
 refine wp_forget (fun W0=>StIn w H g X (X+1) key nonce l 0 (some ⟨G,0,none⟩) len (fun j=>if j<12 then nonce j else 0#8) (fun _=>0#8) W0) ?_ ?_
 ·exact ⟨(hO.drew.setRow_apart hX.drew (by decide) _).alloc _,(hC.drew.setRow_other _ _ (by omega)).alloc _,(hX.drew.setRow _).alloc _,by have:=Blk.new (w3.drew.setRow X (fA 16 fun j=>if j<12 then nonce j else 0#8)) (fA 16 fun _=>0#8) 169;rwa [show (w3.drew.setRow X (fA 16 fun j=>if j<12 then nonce j else 0#8)).heap.size=X+1 from (by simpa [World.setRow] using HS3.out)] at this,(below_setRow hb.drew (by omega) _).alloc (by simp [World.setRow];have:=HS3.out;omega) _⟩
 clear hO hC hN hX hb HS3
 rintro w4 hin
 obtain ⟨Y,hY⟩:∃Y,Y=X+1:=⟨_,rfl⟩
 rw [←hY] at hin⊢
 have hXY:X<Y:=by omega
 clear hY
 go_loopg [9,28] len (StRel w H g X Y key nonce l)
 case atStart=>
  have:=HL.out
  exact ⟨0,_,_,_,_,by omega,rfl,rfl,fun j hj=>by rw [if_pos hj],fun h=>absurd rfl h,hin⟩
 case round=>
  clear hin
  obtain ⟨k,oa,oc,xs,ys,hf,rfl,rfl,hxs,hys,hin⟩:=hrel
  have HF:=Lib.hid hf
  have HX:=Lib.hid hxs
  have HY:=Lib.hid hys
  by_cases hlt:k<len
  ·have tk:decide ((k:Int)<(len:Int))=true:=by simp;omega
   have hkl:k<l.length:=by rw [HL.out];exact hlt
   clear hf hxs hys
   obtain ⟨b,o,hab,hcell⟩:=(hl.below (HH.out▸hin.below)).at (by omega)
   subst hab
   have hc:wr.cell? ⟨b,o+k,none⟩=some (.int .u8 (B8 l[k].toBitVec)):=hcell k hkl
   clear hcell
   by_cases h16:k%16=0
   ·have t16:((k:Int)%16==0)=true:=by simp;omega
    clear h16
    go_wp2_with fail
    clear t16
    obtain ⟨g0,rfl⟩:∃g:Nat,g=gk:=⟨_,rfl⟩
    go_loopg [36] 4 (CtRel w H g X Y key nonce l k oa oc xs ys)
    case atStart=>exact ⟨0,by omega,rfl,⟨hin.own,hin.cph,hin.x.ofF fun i hi=>by
     by_cases h:i<12
     ·rw [if_pos h,HX.out i h]
     ·rw [if_neg h,if_neg (by omega)],hin.y,hin.below⟩⟩
    case round=>
     clear hin hc
     obtain ⟨m,hf,rfl,hin⟩:=hrel
     have HM:=Lib.hid hf
     have hcs:m=0∨m=1∨m=2∨m=3∨m=4:=by omega
     clear hf
     rcases hcs with rfl|rfl|rfl|rfl|rfl
     ·have r1:=hin.x.rule
      have f1:=hin.x.free
      have c1:=fA_at (n:=16) (i:=12) (fun i=>if i<12 then nonce i else if i<12+0 then ctr nonce (k/16) i else xs i) (by omega)
      go_wp2_with fail
      clear r1 f1 c1
      go_roundg (gk-1)
      case rel=>exact ⟨1,by have:=HM.out;omega,rfl,hin.own.setCell_apart hin.x (by decide) _ _,hin.cph.other _ _ (by show g≠X;omega),ct_step (by omega) (by omega) hin.x (ctr_b0 nonce k (by omega)),hin.y.other _ _ (by show Y≠X;omega),hin.below.setCell (by show H≤X;omega) _⟩
      case measure=>have:=HM.out;omega
     ·have r1:=hin.x.rule
      have f1:=hin.x.free
      have c1:=fA_at (n:=16) (i:=13) (fun i=>if i<12 then nonce i else if i<12+1 then ctr nonce (k/16) i else xs i) (by omega)
      go_wp2_with fail
      clear r1 f1 c1
      go_roundg (gk-1)
      case rel=>exact ⟨2,by have:=HM.out;omega,rfl,hin.own.setCell_apart hin.x (by decide) _ _,hin.cph.other _ _ (by show g≠X;omega),ct_step (by omega) (by omega) hin.x (ctr_b1 nonce k (by omega)),hin.y.other _ _ (by show Y≠X;omega),hin.below.setCell (by show H≤X;omega) _⟩
      case measure=>have:=HM.out;omega
     ·have r1:=hin.x.rule
      have f1:=hin.x.free
      have c1:=fA_at (n:=16) (i:=14) (fun i=>if i<12 then nonce i else if i<12+2 then ctr nonce (k/16) i else xs i) (by omega)
      go_wp2_with fail
      clear r1 f1 c1
      go_roundg (gk-1)
      case rel=>exact ⟨3,by have:=HM.out;omega,rfl,hin.own.setCell_apart hin.x (by decide) _ _,hin.cph.other _ _ (by show g≠X;omega),ct_step (by omega) (by omega) hin.x (ctr_b2 nonce k (by omega)),hin.y.other _ _ (by show Y≠X;omega),hin.below.setCell (by show H≤X;omega) _⟩
      case measure=>have:=HM.out;omega
     ·have r1:=hin.x.rule
      have f1:=hin.x.free
      have c1:=fA_at (n:=16) (i:=15) (fun i=>if i<12 then nonce i else if i<12+3 then ctr nonce (k/16) i else xs i) (by omega)
      go_wp2_with fail
      clear r1 f1 c1
      go_roundg (gk-1)
      case rel=>exact ⟨4,by have:=HM.out;omega,rfl,hin.own.setCell_apart hin.x (by decide) _ _,hin.cph.other _ _ (by show g≠X;omega),ct_step (by omega) (by omega) hin.x (by first|exact ctr_b3 nonce k|exact ctr_b3' nonce k),hin.y.other _ _ (by show Y≠X;omega),hin.below.setCell (by show H≤X;omega) _⟩
      case measure=>have:=HM.out;omega
     ·have hin4:StIn w H g X Y key nonce l k oa oc (ctr nonce (k/16)) ys wr:=⟨hin.own,hin.cph,hin.x.ofF fun i hi=>ctr_all nonce _ i hi,hin.y,hin.below⟩
      clear hin
      have hx4:=hin4.x
      go_wp2_with (refine wpList_load_blk rfl 169 agg16 _ rfl rfl hx4 (fA_size _ _) ?_)
      refine (ablock_any g (ctr nonce (k/16)) key _ hin4.cph).mono ?_
      rintro e w5 ⟨rfl,hb5⟩
      clear hx4
      have hy5:=hin4.y.old hb5
      go_upto_region 18 with (refine wpList_store_blk rfl 169 agg16 (.tmp 11) _ rfl rfl rfl hy5 (fA_size _ _) (fA_size _ _) (fA_one _ _) ?_)
      refine wp_forget (fun W0=>StIn w H g X Y key nonce l k oa oc (ctr nonce (k/16)) (enc key (ctr nonce (k/16))) W0) ⟨(hin4.own.old hb5).setRow_apart hy5 (by decide) _,(hin4.cph.old hb5).setRow_other _ _ (by omega),(hin4.x.old hb5).setRow_other _ _ (by omega),hy5.setRow _,below_setRow (hin4.below.trans (hb5.mono (by have:=hin4.x.lt;omega))) (by omega) _⟩ ?_
      clear hin4 hb5 hy5
      rintro w6 hin5
      have hy:=hin5.y.atF (show k%16<16 by omega) rfl
      have hH5:H≤w6.heap.size:=by have:=hin5.x.lt;omega
      go_wp2_with (at_builtin;refine wpList_append_row rfl _ _ 22 rfl bytesT5 rfl (hin5.own.alloc _) rfl (RowAt.new' _ _ _ _ (by simp)) (by rfl) (by exact all_one _ rfl) (by unfold maxLen;omega) (by omega) (by simp;omega) ?_)
      intro oa' oc' w7 hown7 hg7
      go_wp2_with fail
      go_roundg (g0-1)
      case rel=>exact st_next hkl HF.out hH5 (fun j hj=>by rw [ctr,if_pos hj]) hin5 hown7 hg7
      case measure=>have:=HF.out;omega
   ·have t16:((k:Int)%16==0)=false:=by simp;omega
    have hin5:StIn w H g X Y key nonce l k oa oc xs (enc key (ctr nonce (k/16))) wr:=⟨hin.own,hin.cph,hin.x,hin.y.ofF fun j hj=>HY.out h16 j hj,hin.below⟩
    clear hin
    obtain ⟨w6,rfl⟩:∃w6:World,w6=wr:=⟨_,rfl⟩
    have hy:=hin5.y.atF (show k%16<16 by omega) rfl
    have hH5:H≤w6.heap.size:=by have:=hin5.x.lt;omega
    go_wp2_with (at_builtin;refine wpList_append_row rfl _ _ 22 rfl bytesT5 rfl (hin5.own.alloc _) rfl (RowAt.new' _ _ _ _ (by simp)) (by rfl) (by exact all_one _ rfl) (by unfold maxLen;omega) (by omega) (by simp;omega) ?_)
    intro oa' oc' w7 hown7 hg7
    go_wp2_with fail
    go_roundg (gk-1)
    case rel=>exact st_next hkl HF.out hH5 HX.out hin5 hown7 hg7
    case measure=>have:=HF.out;omega
  ·have hf:=HF.out
   have hlen:=HL.out
   have tk:decide ((k:Int)<(len:Int))=false:=by simp;omega
   obtain rfl:k=len:=by omega
   clear hf hxs hys hlen
   go_wp2_with fail
   go_ret2
   refine ⟨oa,oc,rfl,?_,HH.out▸hin.below⟩
   have e:=HL.out
   rw [stm,e,←HH.out]
   exact hin.own
end
end Go.Proofs.YtioigihakjlopaaGreat
