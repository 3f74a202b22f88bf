/- Texts put together and cut to what is used: VRC, VRF. -/
import Derived.Test.YtioigihakjlopaaGreatVB39
import Derived.Test.YtioigihakjlopaaGreatVB40
namespace Go.Proofs.YtioigihakjlopaaGreat
set_option linter.unusedVariables false
set_option linter.unusedSimpArgs false
section
open Go.RowKit
set_option maxRecDepth 20000
def fcV (a:Option Addr) (n cap k:Nat) (bad:Bool):Array Value:= #[.slice a n cap,.int .i64 (k:Int),.bool bad]
structure FCur (w:World) (B C:Nat) (a:Option Addr) (cap:Nat) (bs:List UInt8) (k:Nat) (bad:Bool):Prop where
 blk:Blk w C (fcV a bs.length cap k bad) 149
 row:BytesAt w a bs
 low:InB B a bs.length
 ge:B≤C
 le:k≤bs.length
 max:bs.length≤1048576
 capOk:bs.length≤cap
section
variable {w w':World} {B C cap k:Nat} {a:Option Addr} {bs:List UInt8} {bad:Bool}
theorem FCur.keep (h:FCur w B C a cap bs k bad) (hk:w'.heap[C]? =w.heap[C]?) (hb:Below B w w'):FCur w' B C a cap bs k bad:=
 ⟨hk.trans h.blk,RowAt.low h.row h.low (fun h0=>by rw [List.eq_nil_of_length_eq_zero h0];rfl) hb,h.low,h.ge,h.le,h.max,h.capOk⟩
theorem FCur.old (h:FCur w B C a cap bs k bad) (hb:Below w.heap.size w w') (hB:B≤w.heap.size):FCur w' B C a cap bs k bad:=h.keep (hb.block _ h.blk.lt) (hb.mono hB)
theorem FCur.setBad (h:FCur w B C a cap bs k bad) (b:Bool):FCur (w.setCell ⟨C,2,none⟩ (.bool b)) B C a cap bs k b:=
 ⟨h.blk.set 2 (.bool b),RowAt.low h.row h.low (fun h0=>by rw [List.eq_nil_of_length_eq_zero h0];rfl) ((Below.refl _ _).setCell h.ge _),h.low,h.ge,h.le,h.max,h.capOk⟩
theorem FCur.setAt (h:FCur w B C a cap bs k bad) (j:Nat) (hj:j≤bs.length):FCur (w.setCell ⟨C,1,none⟩ (.int .i64 (j:Int))) B C a cap bs j bad:=
 ⟨h.blk.set 1 (.int .i64 (j:Int)),RowAt.low h.row h.low (fun h0=>by rw [List.eq_nil_of_length_eq_zero h0];rfl) ((Below.refl _ _).setCell h.ge _),h.low,h.ge,hj,h.max,h.capOk⟩
end
def FAt (w:World) (B C:Nat) (a:Option Addr) (cap:Nat) (bs:List UInt8) (s:CS):Prop:=∃k,FCur w B C a cap bs k s.bad∧s.b=bs.drop k
def FNumP (w:World) (B C:Nat) (a:Option Addr) (cap:Nat) (bs:List UInt8) (s:CS) (e:Ending) (w':World):Prop:=
 e= .returned (.int .i64 (numC s).1)∧FAt w' B C a cap bs (numC s).2∧Turn (fun x=>x=C) w w'
def FNumR (w:World) (B C:Nat) (a:Option Addr) (cap:Nat) (bs:List UInt8) (k:Nat) (bad:Bool) (f:Nat) (v i:Value) (wr:World):Prop:=
 ∃t:Nat,t+f=8∧i= .int .i64 (t:Int)∧v= .int .u64 (U64 (rdB ((bs.drop k).take t)))∧FCur wr B C a cap bs k bad∧Below w.heap.size w wr
set_option maxHeartbeats 4000000 in
theorem fnumber_any (w:World) (B C:Nat) (a:Option Addr) (cap:Nat) (bs:List UInt8) (s:CS) (h:FAt w B C a cap bs s) (hB:B≤w.heap.size):
  Calls Tryz.prog 86 #[.pointer (some ⟨C,0,none⟩)] w (FNumP w B C a cap bs s):=by
 obtain ⟨sb,bad⟩:=s
 obtain ⟨k,h,hsb⟩:=h
 dsimp only at h hsb
 subst hsb
 have hc:=h.blk.rule
 unfold fcV at hc
 have hle:=h.le
 have hmx:=h.max
 have hsub:IntKind.i64.wrap ((bs.length:Int)-(k:Int))=(bs.length:Int)-(k:Int):=by rw [IntKind.wrap_i64];omega
 have hCl:=h.blk.lt
 by_cases hs:bs.length<k+8
 ·have d1:decide ((bs.length:Int)-(k:Int)<8)=true:=by simp;omega
  have e1:takeC 8 ⟨bs.drop k,bad⟩=([],⟨bs.drop k,true⟩):=if_pos (by simp only [List.length_drop];omega)
  have HP:∀w1 w2,FCur w1 B C a cap bs k bad→Below w.heap.size w w1→w2=w1.setCell ⟨C,2,none⟩ (.bool true)→FNumP w B C a cap bs ⟨bs.drop k,bad⟩ (.returned (.int .i64 0)) w2:=by
   rintro w1 w2 h1 hb1 rfl
   unfold FNumP numC
   rw [e1]
   exact ⟨rfl,⟨k,h1.setBad true,rfl⟩,(Turn.of_below (F:=fun x=>x=C) hb1).one _⟩
  have HPh:=Lib.hid HP
  clear HP e1
  go_enter Tryz.func86,Tryz.ntmps86
  go_wp2_with fail
  go_quiet (fail)
  go_upto_region 2 with (fail)
  refine wp_forget (fun W=>FCur W B C a cap bs k bad∧Below w.heap.size w W) ⟨h.old (by (try unfold Kept);repeat (first|assumption|exact Below.refl _ _|exact below_undrew (Below.refl _ _)|exact Below.mono (by assumption) (by first|(simp;done)|(simp;omega)|omega)|refine below_setRow ?_ (by first|(simp;done)|(simp;omega)|omega) _|refine Below.setCell ?_ (by first|(simp;done)|(simp;omega)|omega) _|refine Below.alloc ?_ (by first|(simp;done)|(simp;omega)|omega) _|refine below_drewN ?_ _|refine Below.drew ?_|refine below_undrew ?_|refine below_step ?_ (by assumption))) hB,by (try unfold Kept);repeat (first|assumption|exact Below.refl _ _|exact below_undrew (Below.refl _ _)|exact Below.mono (by assumption) (by first|(simp;done)|(simp;omega)|omega)|refine below_setRow ?_ (by first|(simp;done)|(simp;omega)|omega) _|refine Below.setCell ?_ (by first|(simp;done)|(simp;omega)|omega) _|refine Below.alloc ?_ (by first|(simp;done)|(simp;omega)|omega) _|refine below_drewN ?_ _|refine Below.drew ?_|refine below_undrew ?_|refine below_step ?_ (by assumption))⟩ ?_
  rintro w1 ⟨h1,hb1⟩
  clear hc
  have hc:=h1.blk.rule
  unfold fcV at hc
  have f1:=h1.blk.free
  go_wp2_with fail
  go_ret
  exact HPh.out _ _ h1 hb1 rfl
 ·have d1:decide ((bs.length:Int)-(k:Int)<8)=false:=by simp;omega
  have e1:takeC 8 ⟨bs.drop k,bad⟩=((bs.drop k).take 8,⟨bs.drop (k+8),bad⟩):=by
   unfold takeC
   rw [if_neg (by simp only [List.length_drop];omega)]
   rw [show (8:Int).toNat=8 from rfl,List.drop_drop]
  have HP:∀w1 w2 v,FCur w1 B C a cap bs k bad→Below w.heap.size w w1→w2=w1.setCell ⟨C,1,none⟩ (.int .i64 ((k+8:Nat):Int))→v=(rdB ((bs.drop k).take 8)).toInt→FNumP w B C a cap bs ⟨bs.drop k,bad⟩ (.returned (.int .i64 v)) w2:=by
   rintro w1 w2 v h1 hb1 rfl rfl
   unfold FNumP numC
   rw [e1]
   exact ⟨rfl,⟨k+8,h1.setAt (k+8) (by omega),rfl⟩,(Turn.of_below (F:=fun x=>x=C) hb1).one _⟩
  have HPh:=Lib.hid HP
  clear HP e1
  go_enter Tryz.func86,Tryz.ntmps86
  go_wp2_with fail
  go_quiet (fail)
  go_upto_region 3 with (fail)
  refine wp_forget (fun W=>FNumR w B C a cap bs k bad 8 (.int .u64 0) (.int .i64 0) W) ⟨0,rfl,rfl,by simp [rdB,U64],h.old (by (try unfold Kept);repeat (first|assumption|exact Below.refl _ _|exact below_undrew (Below.refl _ _)|exact Below.mono (by assumption) (by first|(simp;done)|(simp;omega)|omega)|refine below_setRow ?_ (by first|(simp;done)|(simp;omega)|omega) _|refine Below.setCell ?_ (by first|(simp;done)|(simp;omega)|omega) _|refine Below.alloc ?_ (by first|(simp;done)|(simp;omega)|omega) _|refine below_drewN ?_ _|refine Below.drew ?_|refine below_undrew ?_|refine below_step ?_ (by assumption))) hB,by (try unfold Kept);repeat (first|assumption|exact Below.refl _ _|exact below_undrew (Below.refl _ _)|exact Below.mono (by assumption) (by first|(simp;done)|(simp;omega)|omega)|refine below_setRow ?_ (by first|(simp;done)|(simp;omega)|omega) _|refine Below.setCell ?_ (by first|(simp;done)|(simp;omega)|omega) _|refine Below.alloc ?_ (by first|(simp;done)|(simp;omega)|omega) _|refine below_drewN ?_ _|refine Below.drew ?_|refine below_undrew ?_|refine below_step ?_ (by assumption))⟩ ?_
  intro w1 hst
  clear hc h
  go_wp2_with fail
  go_loopg [3,4] 8 (fun f v i wr=>FNumR w B C a cap bs k bad f v i wr)
  case atStart=>exact hst
  case round=>
   clear hst
   obtain ⟨t,hf,rfl,rfl,h,hb⟩:=hrel
   have hz:=hb.size
   have hc:=h.blk.rule
   unfold fcV at hc
   by_cases ht:t<8
   ·have t0:decide ((t:Int)<8)=true:=by simp;omega
    have i1:IntKind.i64.wrap ((k:Int)+(t:Int))=(k:Int)+(t:Int):=by rw [IntKind.wrap_i64];omega
    have i2:(0:Int)≤(k:Int)+(t:Int):=by omega
    have i3:(k:Int)+(t:Int)<(bs.length:Int):=by omega
    have i4:((k:Int)+(t:Int)).toNat=k+t:=by omega
    obtain ⟨b,o,rfl,hcell⟩:=h.row (k+t) (by rw [List.length_map];omega)
    rw [List.getElem_map] at hcell
    unfold bv at hcell
    have HT:=Lib.hid (show (bs.drop k).take (t+1)=(bs.drop k).take t++ [bs[k+t]] by
     rw [List.take_succ_eq_append_getElem (by rw [List.length_drop];omega),List.getElem_drop])
    generalize bs[k+t]=y at*
    generalize hm:rdB ((bs.drop k).take t)=m at*
    have HM:=Lib.hid hm
    clear hm
    have hor:=or_step m y
    go_wp2_with fail
    go_quiet (fail)
    go_wp2_with fail
    go_roundg (gk-1)
    case measure=>omega
    case rel=>
     refine ⟨t+1,by omega,by go_num,?_,h.old (by (try unfold Kept);repeat (first|assumption|exact Below.refl _ _|exact below_undrew (Below.refl _ _)|exact Below.mono (by assumption) (by first|(simp;done)|(simp;omega)|omega)|refine below_setRow ?_ (by first|(simp;done)|(simp;omega)|omega) _|refine Below.setCell ?_ (by first|(simp;done)|(simp;omega)|omega) _|refine Below.alloc ?_ (by first|(simp;done)|(simp;omega)|omega) _|refine below_drewN ?_ _|refine Below.drew ?_|refine below_undrew ?_|refine below_step ?_ (by assumption))) (Nat.le_trans hB hz),by (try unfold Kept);repeat (first|assumption|exact Below.refl _ _|exact below_undrew (Below.refl _ _)|exact Below.mono (by assumption) (by first|(simp;done)|(simp;omega)|omega)|refine below_setRow ?_ (by first|(simp;done)|(simp;omega)|omega) _|refine Below.setCell ?_ (by first|(simp;done)|(simp;omega)|omega) _|refine Below.alloc ?_ (by first|(simp;done)|(simp;omega)|omega) _|refine below_drewN ?_ _|refine Below.drew ?_|refine below_undrew ?_|refine below_step ?_ (by assumption))⟩
     rw [HT.out,rdB_snoc,HM.out]
     first|done|exact congrArg _ hor
   ·obtain rfl:t=8:=by omega
    have t0:decide (((8:Nat):Int)<8)=false:=by simp
    have i1:IntKind.i64.wrap ((k:Int)+8)=((k+8:Nat):Int):=by rw [IntKind.wrap_i64];omega
    have f1:=h.blk.free
    have hcv:=i64_of_u64 (rdB ((bs.drop k).take 8))
    go_wp2_with fail
    go_ret
    exact HPh.out _ _ _ h hb rfl rfl
def countF (size:Nat) (s:CS):Nat×CS:=
 if (numC s).2.bad=true∨(numC s).1<0∨((((numC s).2.b.length:Int)).tdiv size<(numC s).1) then (0,⟨(numC s).2.b,true⟩) else ((numC s).1.toNat,(numC s).2)
def FCountP (w:World) (B C:Nat) (a:Option Addr) (cap:Nat) (bs:List UInt8) (size:Nat) (s:CS) (e:Ending) (w':World):Prop:=
 e= .returned (.int .i64 ((countF size s).1:Int))∧FAt w' B C a cap bs (countF size s).2∧Turn (fun x=>x=C) w w'
set_option maxHeartbeats 4000000 in
theorem fcount_any (w:World) (B C:Nat) (a:Option Addr) (cap:Nat) (bs:List UInt8) (size:Nat) (s:CS) (h:FAt w B C a cap bs s) (hB:B≤w.heap.size) (he1:0<size) (he2:size≤100):
  Calls Tryz.prog 130 #[.pointer (some ⟨C,0,none⟩),.int .i64 (size:Int)] w (FCountP w B C a cap bs size s):=by
 have cb:=fnumber_any w B C a cap bs s h hB
 have HF:=Lib.hid (show countF size s=if (numC s).2.bad=true∨(numC s).1<0∨((((numC s).2.b.length:Int)).tdiv size<(numC s).1) then (0,⟨(numC s).2.b,true⟩) else ((numC s).1.toNat,(numC s).2) from rfl)
 obtain ⟨F,hF⟩:∃F,F=FCountP w B C a cap bs size s:=⟨_,rfl⟩
 rw [←hF]
 have HFF:=Lib.hid hF
 clear hF h
 go_enter Tryz.func130,Tryz.ntmps130
 go_wp2_with fail
 refine cb.mono ?_
 clear cb
 rintro e w2 ⟨rfl,⟨k,h,hsb⟩,ht⟩
 have hw:=numC_wf s
 have hn64: -9223372036854775808≤(numC s).1∧(numC s).1<9223372036854775808:=by
  have h1:=BitVec.toInt_lt (x:=rdB (takeC 8 s).1)
  have h2:=BitVec.le_toInt (x:=rdB (takeC 8 s).1)
  unfold numC
  simp at h1 h2
  simp
  omega
 have HP0:∀w1 w3 k1,((numC s).2.bad=true∨(numC s).1<0∨((((numC s).2.b.length:Int)).tdiv size<(numC s).1))→FCur w1 B C a cap bs k (numC s).2.bad→Below w2.heap.size w2 w1→w3=w1.setCell ⟨C,2,none⟩ (.bool true)→k1=(0:Int)→F (.returned (.int .i64 k1)) w3:=by
  rintro w1 w3 k1 hq h1 hb1 rfl rfl
  rw [HFF.out]
  unfold FCountP
  rw [HF.out,if_pos hq]
  exact ⟨rfl,⟨k,h1.setBad true,hsb⟩,(ht.trans (Turn.of_below (F:=fun x=>x=C) hb1) fun _ hx=> .inl hx).one _⟩
 have HP1:∀w1 k1,¬((numC s).2.bad=true∨(numC s).1<0∨((((numC s).2.b.length:Int)).tdiv size<(numC s).1))→FCur w1 B C a cap bs k (numC s).2.bad→Below w2.heap.size w2 w1→k1=(numC s).1→F (.returned (.int .i64 k1)) w1:=by
  rintro w1 k1 hq h1 hb1 rfl
  rw [HFF.out]
  unfold FCountP
  rw [HF.out,if_neg hq]
  exact ⟨by rw [Int.toNat_of_nonneg (by omega)],⟨k,h1,hsb⟩,ht.trans (Turn.of_below (F:=fun x=>x=C) hb1) fun _ hx=> .inl hx⟩
 have HB2:=Nat.le_trans hB ht.size
 have hlen:(numC s).2.b.length=bs.length-k:=by rw [hsb,List.length_drop]
 rw [hlen] at HP0 HP1
 have P0:=Lib.hid HP0
 have P1:=Lib.hid HP1
 clear HP0 HP1 HF HFF hsb hlen ht hw
 generalize (numC s).1=n at*
 generalize (numC s).2.bad=bd at*
 have hle:=h.le
 have hmx:=h.max
 have hc:=h.blk.rule
 unfold fcV at hc
 have hsub:IntKind.i64.wrap ((bs.length:Int)-(k:Int))=(bs.length:Int)-(k:Int):=by rw [IntKind.wrap_i64];omega
 obtain ⟨z,hz⟩:∃z,z=((bs.length:Int)-(k:Int)).tdiv size:=⟨_,rfl⟩
 have hze:(((bs.length-k:Nat):Int)).tdiv size=z:=by rw [hz];congr 1;omega
 rw [hze] at P0 P1
 have hz0:0≤z∧z≤1048576:=by
  rw [hz,Int.tdiv_eq_ediv_of_nonneg (by omega)]
  exact ⟨Int.ediv_nonneg (by omega) (by omega),Int.le_trans (Int.ediv_le_self _ (by omega)) (by omega)⟩
 have hzw:IntKind.i64.wrap (((bs.length:Int)-(k:Int)).tdiv size)=z:=by rw [←hz,IntKind.wrap_i64];omega
 have hne:((size:Int)==0)=false:=by simp;omega
 have hne2:(size:Int)≠0:=by omega
 clear hz hze
 cases bd with
 |true=>
  go_wp2_with fail
  go_quiet (fail)
  go_upto_region 3 with (fail)
  refine wp_forget (fun W=>FCur W B C a cap bs k true∧Below w2.heap.size w2 W) ⟨h.old (by (try unfold Kept);repeat (first|assumption|exact Below.refl _ _|exact below_undrew (Below.refl _ _)|exact Below.mono (by assumption) (by first|(simp;done)|(simp;omega)|omega)|refine below_setRow ?_ (by first|(simp;done)|(simp;omega)|omega) _|refine Below.setCell ?_ (by first|(simp;done)|(simp;omega)|omega) _|refine Below.alloc ?_ (by first|(simp;done)|(simp;omega)|omega) _|refine below_drewN ?_ _|refine Below.drew ?_|refine below_undrew ?_|refine below_step ?_ (by assumption))) HB2,by (try unfold Kept);repeat (first|assumption|exact Below.refl _ _|exact below_undrew (Below.refl _ _)|exact Below.mono (by assumption) (by first|(simp;done)|(simp;omega)|omega)|refine below_setRow ?_ (by first|(simp;done)|(simp;omega)|omega) _|refine Below.setCell ?_ (by first|(simp;done)|(simp;omega)|omega) _|refine Below.alloc ?_ (by first|(simp;done)|(simp;omega)|omega) _|refine below_drewN ?_ _|refine Below.drew ?_|refine below_undrew ?_|refine below_step ?_ (by assumption))⟩ ?_
  rintro w1 ⟨h1,hb1⟩
  clear hc
  have hc:=h1.blk.rule
  unfold fcV at hc
  have f1:=h1.blk.free
  go_wp2_with fail
  exact P0.out _ _ _ (.inl (by first|trivial|rfl)) h1 hb1 rfl rfl
 |false=>
  by_cases h1:n<0
  ·have t1:decide (n<0)=true:=by simpa using h1
   go_wp2_with fail
   go_quiet (fail)
   go_upto_region 3 with (fail)
   refine wp_forget (fun W=>FCur W B C a cap bs k false∧Below w2.heap.size w2 W) ⟨h.old (by (try unfold Kept);repeat (first|assumption|exact Below.refl _ _|exact below_undrew (Below.refl _ _)|exact Below.mono (by assumption) (by first|(simp;done)|(simp;omega)|omega)|refine below_setRow ?_ (by first|(simp;done)|(simp;omega)|omega) _|refine Below.setCell ?_ (by first|(simp;done)|(simp;omega)|omega) _|refine Below.alloc ?_ (by first|(simp;done)|(simp;omega)|omega) _|refine below_drewN ?_ _|refine Below.drew ?_|refine below_undrew ?_|refine below_step ?_ (by assumption))) HB2,by (try unfold Kept);repeat (first|assumption|exact Below.refl _ _|exact below_undrew (Below.refl _ _)|exact Below.mono (by assumption) (by first|(simp;done)|(simp;omega)|omega)|refine below_setRow ?_ (by first|(simp;done)|(simp;omega)|omega) _|refine Below.setCell ?_ (by first|(simp;done)|(simp;omega)|omega) _|refine Below.alloc ?_ (by first|(simp;done)|(simp;omega)|omega) _|refine below_drewN ?_ _|refine Below.drew ?_|refine below_undrew ?_|refine below_step ?_ (by assumption))⟩ ?_
   rintro w1 ⟨h1',hb1⟩
   clear hc
   have hc:=h1'.blk.rule
   unfold fcV at hc
   have f1:=h1'.blk.free
   go_wp2_with fail
   exact P0.out _ _ _ (.inr (.inl h1)) h1' hb1 rfl rfl
  ·have t1:decide (n<0)=false:=by simpa using h1
   by_cases h2:z<n
   ·have t2:decide (z<n)=true:=by simpa using h2
    go_wp2_with fail
    go_quiet (fail)
    go_upto_region 3 with (fail)
    refine wp_forget (fun W=>FCur W B C a cap bs k false∧Below w2.heap.size w2 W) ⟨h.old (by (try unfold Kept);repeat (first|assumption|exact Below.refl _ _|exact below_undrew (Below.refl _ _)|exact Below.mono (by assumption) (by first|(simp;done)|(simp;omega)|omega)|refine below_setRow ?_ (by first|(simp;done)|(simp;omega)|omega) _|refine Below.setCell ?_ (by first|(simp;done)|(simp;omega)|omega) _|refine Below.alloc ?_ (by first|(simp;done)|(simp;omega)|omega) _|refine below_drewN ?_ _|refine Below.drew ?_|refine below_undrew ?_|refine below_step ?_ (by assumption))) HB2,by (try unfold Kept);repeat (first|assumption|exact Below.refl _ _|exact below_undrew (Below.refl _ _)|exact Below.mono (by assumption) (by first|(simp;done)|(simp;omega)|omega)|refine below_setRow ?_ (by first|(simp;done)|(simp;omega)|omega) _|refine Below.setCell ?_ (by first|(simp;done)|(simp;omega)|omega) _|refine Below.alloc ?_ (by first|(simp;done)|(simp;omega)|omega) _|refine below_drewN ?_ _|refine Below.drew ?_|refine below_undrew ?_|refine below_step ?_ (by assumption))⟩ ?_
    rintro w1 ⟨h1',hb1⟩
    clear hc
    have hc:=h1'.blk.rule
    unfold fcV at hc
    have f1:=h1'.blk.free
    go_wp2_with fail
    exact P0.out _ _ _ (.inr (.inr h2)) h1' hb1 rfl rfl
   ·have t2:decide (z<n)=false:=by simpa using h2
    go_wp2_with fail
    go_quiet (fail)
    go_upto_region 5 with (fail)
    refine wp_forget (fun W=>FCur W B C a cap bs k false∧Below w2.heap.size w2 W) ⟨h.old (by (try unfold Kept);repeat (first|assumption|exact Below.refl _ _|exact below_undrew (Below.refl _ _)|exact Below.mono (by assumption) (by first|(simp;done)|(simp;omega)|omega)|refine below_setRow ?_ (by first|(simp;done)|(simp;omega)|omega) _|refine Below.setCell ?_ (by first|(simp;done)|(simp;omega)|omega) _|refine Below.alloc ?_ (by first|(simp;done)|(simp;omega)|omega) _|refine below_drewN ?_ _|refine Below.drew ?_|refine below_undrew ?_|refine below_step ?_ (by assumption))) HB2,by (try unfold Kept);repeat (first|assumption|exact Below.refl _ _|exact below_undrew (Below.refl _ _)|exact Below.mono (by assumption) (by first|(simp;done)|(simp;omega)|omega)|refine below_setRow ?_ (by first|(simp;done)|(simp;omega)|omega) _|refine Below.setCell ?_ (by first|(simp;done)|(simp;omega)|omega) _|refine Below.alloc ?_ (by first|(simp;done)|(simp;omega)|omega) _|refine below_drewN ?_ _|refine Below.drew ?_|refine below_undrew ?_|refine below_step ?_ (by assumption))⟩ ?_
    rintro w1 ⟨h1',hb1⟩
    clear hc
    go_wp2_with fail
    exact P1.out _ _ (by rintro (h|h|h)<;>first|omega|simp at h) h1' hb1 rfl
def textF (s:CS):List UInt8×CS:=((countF 1 s).2.b.take (countF 1 s).1,⟨(countF 1 s).2.b.drop (countF 1 s).1,(countF 1 s).2.bad⟩)
def FTextP (w:World) (B C:Nat) (a:Option Addr) (cap:Nat) (bs:List UInt8) (s:CS) (e:Ending) (w':World):Prop:=
 e= .returned (.string (strOf (textF s).1))∧FAt w' B C a cap bs (textF s).2∧Turn (fun x=>x=C) w w'
theorem countF_le (s:CS) (size:Nat) (h1:0<size):(countF size s).1*size≤(countF size s).2.b.length:=by
 unfold countF
 split
 ·simp
 ·rename_i h
  have h2:0≤(numC s).1:=by omega
  have h3:(numC s).1≤(((numC s).2.b.length:Int)).tdiv size:=by omega
  rw [Int.tdiv_eq_ediv_of_nonneg (by omega)] at h3
  have h4:(numC s).1*size≤(numC s).2.b.length:=Int.le_trans (Int.mul_le_mul_of_nonneg_right h3 (by omega)) (Int.ediv_mul_le _ (by omega))
  dsimp only
  obtain ⟨q,hq⟩:∃q:Nat,(numC s).1=(q:Int):=⟨(numC s).1.toNat,by omega⟩
  rw [hq] at h4⊢
  rw [Int.toNat_natCast]
  exact_mod_cast h4
set_option maxHeartbeats 4000000 in
theorem ftext_any (w:World) (B C:Nat) (a:Option Addr) (cap:Nat) (bs:List UInt8) (s:CS) (h:FAt w B C a cap bs s) (hB:B≤w.heap.size):
  Calls Tryz.prog 88 #[.pointer (some ⟨C,0,none⟩)] w (FTextP w B C a cap bs s):=by
 have cb:=fcount_any w B C a cap bs 1 s h hB (by decide) (by decide)
 have hnl:=countF_le s 1 (by decide)
 obtain ⟨F,hF⟩:∃F,F=FTextP w B C a cap bs s:=⟨_,rfl⟩
 rw [←hF]
 have HFF:=Lib.hid hF
 clear hF h
 go_enter Tryz.func88,Tryz.ntmps88
 go_wp2_with fail
 refine cb.mono ?_
 clear cb
 rintro e w2 ⟨rfl,⟨k,h,hsb⟩,ht⟩
 have HP:∀w1 w3,FCur w1 B C a cap bs k (countF 1 s).2.bad→Below w2.heap.size w2 w1→w3=w1.setCell ⟨C,1,none⟩ (.int .i64 ((k+(countF 1 s).1:Nat):Int))→F (.returned (.string (strOf ((bs.drop k).take (countF 1 s).1)))) w3:=by
  rintro w1 w3 h1 hb1 rfl
  rw [HFF.out]
  unfold FTextP textF
  dsimp only
  rw [hsb]
  rw [hsb,List.length_drop] at hnl
  have:=h1.le
  exact ⟨rfl,⟨k+(countF 1 s).1,h1.setAt _ (by omega),by dsimp only;rw [List.drop_drop]⟩,(ht.trans (Turn.of_below (F:=fun x=>x=C) hb1) fun _ hx=> .inl hx).one _⟩
 rw [hsb,List.length_drop] at hnl
 have HB2:=Nat.le_trans hB ht.size
 have P:=Lib.hid HP
 clear HP HFF hsb ht
 generalize (countF 1 s).1=n at*
 generalize (countF 1 s).2.bad=bd at*
 have hle:=h.le
 have hmx:=h.max
 have hcp:=h.capOk
 have hc:=h.blk.rule
 unfold fcV at hc
 have hn:k+n≤bs.length:=by omega
 have i1:IntKind.i64.wrap ((k:Int)+(n:Int))=((k+n:Nat):Int):=by rw [IntKind.wrap_i64];omega
 have i2:(k:Int)≤((k+n:Nat):Int):=by omega
 have i3:((k+n:Nat):Int)≤(cap:Int):=by omega
 have hrow:BytesAt w2 (cutA a cap k) ((bs.drop k).take n):=by
  unfold BytesAt
  rw [List.map_take]
  exact RowAt.take n (BytesAt.cutV h.row rfl h.capOk k h.le)
 have hlen:((bs.drop k).take n).length=n:=by rw [List.length_take,List.length_drop];omega
 have hs:∀W,Below w2.heap.size w2 W→∀c,(convert 22 9 (.slice (cutA a cap k) n c)).run Tryz.prog W= .ok (.string (strOf ((bs.drop k).take n))) W:=fun W hW c=>
  run_string_of W Tryz.underlying22 Tryz.underlying5 Tryz.underlying9 (hrow.below hW) hlen
 have hd:(((k+n:Nat):Int)).toNat-k=n:=by omega
 generalize strOf ((bs.drop k).take n)=str at*
 clear hrow hlen
 by_cases hcq:cap=k
 ·rw [show cutA a cap k=a from if_pos hcq] at hs
  subst hcq
  have hs0:∀m,(convert 22 9 (.slice a n 0)).run Tryz.prog (w2.drewN m)= .ok (.string str) (w2.drewN m):=fun m=>hs _ (by (try unfold Kept);repeat (first|assumption|exact Below.refl _ _|exact below_undrew (Below.refl _ _)|exact Below.mono (by assumption) (by first|(simp;done)|(simp;omega)|omega)|refine below_setRow ?_ (by first|(simp;done)|(simp;omega)|omega) _|refine Below.setCell ?_ (by first|(simp;done)|(simp;omega)|omega) _|refine Below.alloc ?_ (by first|(simp;done)|(simp;omega)|omega) _|refine below_drewN ?_ _|refine Below.drew ?_|refine below_undrew ?_|refine below_step ?_ (by assumption))) _
  clear hs
  go_wp2_with fail
  go_quiet (fail)
  go_upto_region 3 with (fail)
  refine wp_forget (fun W=>FCur W B C a cap bs cap bd∧Below w2.heap.size w2 W) ⟨h.old (by (try unfold Kept);repeat (first|assumption|exact Below.refl _ _|exact below_undrew (Below.refl _ _)|exact Below.mono (by assumption) (by first|(simp;done)|(simp;omega)|omega)|refine below_setRow ?_ (by first|(simp;done)|(simp;omega)|omega) _|refine Below.setCell ?_ (by first|(simp;done)|(simp;omega)|omega) _|refine Below.alloc ?_ (by first|(simp;done)|(simp;omega)|omega) _|refine below_drewN ?_ _|refine Below.drew ?_|refine below_undrew ?_|refine below_step ?_ (by assumption))) HB2,by (try unfold Kept);repeat (first|assumption|exact Below.refl _ _|exact below_undrew (Below.refl _ _)|exact Below.mono (by assumption) (by first|(simp;done)|(simp;omega)|omega)|refine below_setRow ?_ (by first|(simp;done)|(simp;omega)|omega) _|refine Below.setCell ?_ (by first|(simp;done)|(simp;omega)|omega) _|refine Below.alloc ?_ (by first|(simp;done)|(simp;omega)|omega) _|refine below_drewN ?_ _|refine Below.drew ?_|refine below_undrew ?_|refine below_step ?_ (by assumption))⟩ ?_
  rintro w1 ⟨h1,hb1⟩
  clear hc
  have hc:=h1.blk.rule
  unfold fcV at hc
  have f1:=h1.blk.free
  go_wp2_with fail
  exact P.out _ _ h1 hb1 rfl
 ·rw [show cutA a cap k=a.map (·.add k) from by unfold cutA;rw [if_neg hcq,Nat.mul_one]] at hs
  have hs0:∀m,(convert 22 9 (.slice (a.map (·.add k)) n (cap-k))).run Tryz.prog (w2.drewN m)= .ok (.string str) (w2.drewN m):=fun m=>hs _ (by (try unfold Kept);repeat (first|assumption|exact Below.refl _ _|exact below_undrew (Below.refl _ _)|exact Below.mono (by assumption) (by first|(simp;done)|(simp;omega)|omega)|refine below_setRow ?_ (by first|(simp;done)|(simp;omega)|omega) _|refine Below.setCell ?_ (by first|(simp;done)|(simp;omega)|omega) _|refine Below.alloc ?_ (by first|(simp;done)|(simp;omega)|omega) _|refine below_drewN ?_ _|refine Below.drew ?_|refine below_undrew ?_|refine below_step ?_ (by assumption))) _
  clear hs
  go_wp2_with fail
  go_quiet (fail)
  go_upto_region 3 with (fail)
  refine wp_forget (fun W=>FCur W B C a cap bs k bd∧Below w2.heap.size w2 W) ⟨h.old (by (try unfold Kept);repeat (first|assumption|exact Below.refl _ _|exact below_undrew (Below.refl _ _)|exact Below.mono (by assumption) (by first|(simp;done)|(simp;omega)|omega)|refine below_setRow ?_ (by first|(simp;done)|(simp;omega)|omega) _|refine Below.setCell ?_ (by first|(simp;done)|(simp;omega)|omega) _|refine Below.alloc ?_ (by first|(simp;done)|(simp;omega)|omega) _|refine below_drewN ?_ _|refine Below.drew ?_|refine below_undrew ?_|refine below_step ?_ (by assumption))) HB2,by (try unfold Kept);repeat (first|assumption|exact Below.refl _ _|exact below_undrew (Below.refl _ _)|exact Below.mono (by assumption) (by first|(simp;done)|(simp;omega)|omega)|refine below_setRow ?_ (by first|(simp;done)|(simp;omega)|omega) _|refine Below.setCell ?_ (by first|(simp;done)|(simp;omega)|omega) _|refine Below.alloc ?_ (by first|(simp;done)|(simp;omega)|omega) _|refine below_drewN ?_ _|refine Below.drew ?_|refine below_undrew ?_|refine below_step ?_ (by assumption))⟩ ?_
  rintro w1 ⟨h1,hb1⟩
  clear hc
  have hc:=h1.blk.rule
  unfold fcV at hc
  have f1:=h1.blk.free
  go_wp2_with fail
  exact P.out _ _ h1 hb1 rfl
def listF (s:CS):List Int×CS:=numsC (countF 8 s).1 (countF 8 s).2
def FListP (w:World) (B C:Nat) (a:Option Addr) (cap:Nat) (bs:List UInt8) (s:CS) (e:Ending) (w':World):Prop:=
 ∃l:Sl,e= .returned (.slice l.a l.n l.c)∧OwnInts w' w.heap.size l (listF s).1∧FAt w' B C a cap bs (listF s).2∧Turn (fun x=>x=C) w w'
def FListR (w:World) (B C:Nat) (a:Option Addr) (cap:Nat) (bs:List UInt8) (N:Nat) (L:List Int×CS) (f:Nat) (v3 v5:Value) (wr:World):Prop:=
 ∃(i:Nat) (a':Option Addr) (c':Nat) (l:List Int) (s:CS),i+f=N∧v5= .int .i64 (i:Int)∧v3= .slice a' i c'∧l.length=i∧(∀x∈l,wf64 x)∧Own wr w.heap.size 3 1 a' i c' (l.map (Value.int .i64))∧FAt wr B C a cap bs s∧Turn (fun x=>x=C) w wr∧Hid (L=(l++(numsC f s).1,(numsC f s).2))
theorem FAt.lt {w:World} {B C cap:Nat} {a:Option Addr} {bs:List UInt8} {s:CS} (h:FAt w B C a cap bs s):C<w.heap.size:=by
 obtain ⟨k,h,-⟩:=h
 exact h.blk.lt
theorem FAt.keep {w w':World} {B C cap:Nat} {a:Option Addr} {bs:List UInt8} {s:CS} (h:FAt w B C a cap bs s) (hk:w'.heap[C]? =w.heap[C]?) (hb:Below B w w'):FAt w' B C a cap bs s:=by
 obtain ⟨k,h,e⟩:=h
 exact ⟨k,h.keep hk hb,e⟩
set_option maxHeartbeats 4000000 in
theorem flist_any (w:World) (B C:Nat) (a:Option Addr) (cap:Nat) (bs:List UInt8) (s:CS) (h:FAt w B C a cap bs s) (hB:B≤w.heap.size):
  Calls Tryz.prog 89 #[.pointer (some ⟨C,0,none⟩)] w (FListP w B C a cap bs s):=by
 have hCw:=h.lt
 have cb:=fcount_any w B C a cap bs 8 s h hB (by decide) (by decide)
 have hnl:=countF_le s 8 (by decide)
 obtain ⟨L,hL⟩:∃L,L=listF s:=⟨_,rfl⟩
 have HLs:=Lib.hid hL
 have HL:=Lib.hid (show L=numsC (countF 8 s).1 (countF 8 s).2 by rw [hL];rfl)
 clear hL h
 go_enter Tryz.func89,Tryz.ntmps89
 go_wp2_with fail
 refine cb.mono ?_
 clear cb
 rintro e w1 ⟨rfl,h1,ht1⟩
 have hmx:(countF 8 s).2.b.length≤1048576:=by
  obtain ⟨k,h,e⟩:=h1
  rw [e,List.length_drop]
  have:=h.max
  omega
 generalize (countF 8 s).1=N at*
 generalize (countF 8 s).2=s1 at*
 have hN:N≤1048576:=by omega
 have hst:FListR w B C a cap bs N L N (.slice none 0 0) (.int .i64 0) w1:=⟨0,none,0,[],s1,by omega,rfl,rfl,rfl,fun x hx=>by simp at hx,Own.nil _ _ _ _,h1,ht1,Lib.hid (by rw [HL.out];rfl)⟩
 clear h1 ht1 HL hnl hmx
 go_wp2_with fail
 go_loopg [3,5,6] N (fun f v3 v5 _ wr=>FListR w B C a cap bs N L f v3 v5 wr)
 case atStart=>exact hst
 case round=>
  clear hst
  obtain ⟨i,a',c',l,s,hi,rfl,rfl,hll,hwf,hown,hc,ht,hL⟩:=hrel
  by_cases hlt:i<N
  ·have t0:decide ((i:Int)<(N:Int))=true:=by simp;omega
   have hzr:=ht.size
   have cb:=fnumber_any wr B C a cap bs s hc (Nat.le_trans hB hzr)
   go_wp2_with fail
   refine cb.mono ?_
   clear cb
   rintro e w3 ⟨rfl,hc3,ht3⟩
   obtain ⟨gf,hgf⟩:∃x,gk=x+1:=⟨gk-1,by omega⟩
   have hL3:=hL.out
   rw [hgf] at hL3
   have HL3:=Lib.hid (show L=((l++ [(numC s).1])++(numsC gf (numC s).2).1,(numsC gf (numC s).2).2) from by rw [hL3];simp [numsC])
   have hwm:=numC_wf s
   clear hL hL3
   generalize (numC s).1=v at*
   generalize (numC s).2=s3 at*
   have hown3:Own w3 w.heap.size 3 1 a' i c' (l.map (Value.int .i64)):=hown.turn ht3 (fun x hx=>by subst hx;exact hCw)
   have ht03:=ht.trans ht3 fun _ hx=> .inl hx
   have hz3:=ht03.size
   have hA:=hown3.alloc (.cells #[.int .i64 v] 3)
   go_wp2_with (at_builtin;refine wpList_append_row rfl _ _ 34 rfl intsT2 rfl hA rfl (RowAt.new' _ _ _ _ (by simp)) (by rfl) (by exact all_one _ rfl) (by unfold maxLen;omega) (by omega) (by simp;omega) ?_)
   intro a6 c6 w6 hown6 hg6
   have hb6:Below w.heap.size w3 w6:=((Below.refl _ _).alloc hz3 _).trans (hA.grown (Below.refl _ _) (Nat.le_refl _) hg6 (by simp;omega))
   have hc6:FAt w6 B C a cap bs s3:=hc3.keep (hb6.block C hCw) (hb6.mono hB)
   have ht6:Turn (fun x=>x=C) w w6:=ht03.trans (Turn.of_ge hb6) fun x hx=> .inr hx
   go_wp2_with fail
   go_roundg gf
   case measure=>omega
   case rel=>
    refine ⟨i+1,a6,c6,l++ [v],s3,by omega,by go_num,rfl,by simp [hll],?_,by simpa using hown6,hc6,ht6,HL3⟩
    intro x hx
    rcases List.mem_append.1 hx with hx|hx
    ·exact hwf x hx
    ·rw [List.mem_singleton.1 hx];exact hwm
  ·have t0:decide ((i:Int)<(N:Int))=false:=by simp;omega
   have hg0:gk=0:=by omega
   have hL3:=hL.out
   rw [hg0] at hL3
   have HL3:=Lib.hid (show L=(l,s) from by rw [hL3];simp [numsC])
   clear hL hL3
   go_wp2_with fail
   go_ret
   refine ⟨⟨a',i,c'⟩,rfl,?_⟩
   rw [←HLs.out,HL3.out]
   exact ⟨⟨hown,hown.row,hll,hown.le,hown.cap_le,by dsimp only;omega,hwf⟩,hc,ht⟩
end
section
open Go.RowKit
def Agr {α:Type} (x y:α×CS):Prop:=x.2.bad=y.2.bad∧(y.2.bad=false→x=y)
theorem takeC_bad {n:Int} {s:CS} (h:s.bad=true):(takeC n s).2.bad=true:=by
 unfold takeC;split
 ·rfl
 ·exact h
theorem numC_bad {s:CS} (h:s.bad=true):(numC s).2.bad=true:=takeC_bad h
theorem countF_bad {s:CS} {n:Nat} (h:s.bad=true):(countF n s).2.bad=true:=by
 unfold countF;rw [if_pos (.inl (numC_bad h))]
theorem textF_bad {s:CS} (h:s.bad=true):(textF s).2.bad=true:=countF_bad h
theorem textC_bad {s:CS} (h:s.bad=true):(textC s).2.bad=true:=takeC_bad (numC_bad h)
theorem numsC_bad:∀(k:Nat) {s:CS},s.bad=true→(numsC k s).2.bad=true
 |0,_,h=>h
 |k+1,_,h=>numsC_bad k (numC_bad h)
theorem listF_bad {s:CS} (h:s.bad=true):(listF s).2.bad=true:=numsC_bad _ (countF_bad h)
theorem listC_bad {s:CS} (h:s.bad=true):(listC s).2.bad=true:=by
 unfold listC;split
 ·rfl
 ·exact numsC_bad _ (numC_bad h)
theorem text_agr (s:CS):Agr (textF s) (textC s):=by
 unfold textF textC countF
 generalize (numC s).1=n
 generalize (numC s).2=t
 cases hb:t.bad with
 |true=>
  rw [if_pos (.inl rfl)]
  refine ⟨(takeC_bad hb).symm,fun h=> ?_⟩
  rw [takeC_bad hb] at h
  cases h
 |false=>
  have e:((t.b.length:Int)).tdiv ((1:Nat):Int)=t.b.length:=by simp
  by_cases hn:n<0∨(t.b.length:Int)<n
  ·rw [if_pos (.inr (by rw [e];exact hn))]
   unfold takeC
   rw [if_pos hn]
   exact ⟨rfl,fun h=>by cases h⟩
  ·rw [if_neg (by rw [e];rintro (h|h);cases h;exact hn h)]
   unfold takeC
   rw [if_neg hn]
   exact ⟨rfl,fun _=>rfl⟩
theorem list_agr (s:CS):Agr (listF s) (listC s):=by
 unfold listF listC countF
 generalize (numC s).1=n
 generalize (numC s).2=t
 have e:((t.b.length:Int)).tdiv ((8:Nat):Int)=((t.b.length/8:Nat):Int):=by rw [Int.tdiv_eq_ediv_of_nonneg (by omega)];omega
 rw [e]
 cases hb:t.bad with
 |true=>
  rw [if_pos (.inl rfl)]
  have h2:(if n<0∨((t.b.length/8:Nat):Int)<n then ([],⟨t.b,true⟩) else numsC n.toNat t:List Int×CS).2.bad=true:=by
   split
   ·rfl
   ·exact numsC_bad _ hb
  refine ⟨h2.symm,fun h=> ?_⟩
  rw [h2] at h
  cases h
 |false=>
  by_cases hn:n<0∨((t.b.length/8:Nat):Int)<n
  ·rw [if_pos (.inr hn),if_pos hn]
   exact ⟨rfl,fun h=>by cases h⟩
  ·rw [if_neg (by rintro (h|h);cases h;exact hn h),if_neg hn]
   exact ⟨rfl,fun _=>rfl⟩
theorem Agr.step {α:Type} {f g:CS→α×CS} (hfg:∀s,Agr (f s) (g s)) (hf:∀{s:CS},s.bad=true→(f s).2.bad=true) (hg:∀{s:CS},s.bad=true→(g s).2.bad=true)
  (u:DeedP→α→DeedP) {x y:DeedP×CS} (h:Agr x y):Agr (u x.1 (f x.2).1,(f x.2).2) (u y.1 (g y.2).1,(g y.2).2):=by
 cases hb:y.2.bad with
 |true=>
  have e1:=hf (h.1.trans hb)
  have e2:=hg hb
  exact ⟨e1.trans e2.symm,fun h=>by rw [e2] at h;cases h⟩
 |false=>
  rw [h.2 hb]
  exact ⟨(hfg y.2).1,fun h2=>by rw [(hfg y.2).2 h2]⟩
def fdecks0 (p:DeedP) (s:CS):DeedP×CS:=({p with dr:=(listF s).1},(listF s).2)
def fdecks1 (p:DeedP) (s:CS):DeedP×CS:=fdecks0 {p with d1:=(listF s).1} (listF s).2
def fdecks2 (p:DeedP) (s:CS):DeedP×CS:=fdecks1 {p with d0:=(listF s).1} (listF s).2
def fnames1 (p:DeedP) (s:CS):DeedP×CS:=fdecks2 {p with n1:=strOf (textF s).1} (textF s).2
def fnames2 (p:DeedP) (s:CS):DeedP×CS:=fnames1 {p with n0:=strOf (textF s).1} (textF s).2
def fdecksT:Nat→DeedP→CS→DeedP×CS
 |0=>fdecks0
 |1=>fdecks1
 |_=>fdecks2
def fnamesT:Nat→DeedP→CS→DeedP×CS
 |0=>fdecks2
 |1=>fnames1
 |_=>fnames2
def ffmtT (p:DeedP) (s:CS):DeedP×CS:=fnames2 {p with fmt:=strOf (textF s).1} (textF s).2
def ftableT (p:DeedP) (s:CS):DeedP×CS:=ffmtT {p with table:=(numC s).1} (numC s).2
theorem agr_decks0 {p q:DeedP} {s t:CS} (h:Agr (p,s) (q,t)):Agr (fdecks0 p s) (decks0 q t):=by
 unfold fdecks0 decks0
 have k:=Agr.step (x:=(p,s)) (y:=(q,t)) list_agr listF_bad listC_bad (fun (p:DeedP) l=>{p with dr:=l}) h
 dsimp only at k
 exact k
theorem agr_decks1 {p q:DeedP} {s t:CS} (h:Agr (p,s) (q,t)):Agr (fdecks1 p s) (decks1 q t):=by
 unfold fdecks1 decks1
 have k:=Agr.step (x:=(p,s)) (y:=(q,t)) list_agr listF_bad listC_bad (fun (p:DeedP) l=>{p with d1:=l}) h
 dsimp only at k
 exact agr_decks0 k
theorem agr_decks2 {p q:DeedP} {s t:CS} (h:Agr (p,s) (q,t)):Agr (fdecks2 p s) (decks2 q t):=by
 unfold fdecks2 decks2
 have k:=Agr.step (x:=(p,s)) (y:=(q,t)) list_agr listF_bad listC_bad (fun (p:DeedP) l=>{p with d0:=l}) h
 dsimp only at k
 exact agr_decks1 k
theorem agr_names1 {p q:DeedP} {s t:CS} (h:Agr (p,s) (q,t)):Agr (fnames1 p s) (names1 q t):=by
 unfold fnames1 names1
 have k:=Agr.step (x:=(p,s)) (y:=(q,t)) text_agr textF_bad textC_bad (fun (p:DeedP) l=>{p with n1:=strOf l}) h
 dsimp only at k
 exact agr_decks2 k
theorem agr_names2 {p q:DeedP} {s t:CS} (h:Agr (p,s) (q,t)):Agr (fnames2 p s) (names2 q t):=by
 unfold fnames2 names2
 have k:=Agr.step (x:=(p,s)) (y:=(q,t)) text_agr textF_bad textC_bad (fun (p:DeedP) l=>{p with n0:=strOf l}) h
 dsimp only at k
 exact agr_names1 k
theorem agr_fmt {p q:DeedP} {s t:CS} (h:Agr (p,s) (q,t)):Agr (ffmtT p s) (fmtT q t):=by
 unfold ffmtT fmtT
 have k:=Agr.step (x:=(p,s)) (y:=(q,t)) text_agr textF_bad textC_bad (fun (p:DeedP) l=>{p with fmt:=strOf l}) h
 dsimp only at k
 exact agr_names2 k
theorem Agr.refl {α:Type} (x:α×CS):Agr x x:=⟨rfl,fun _=>rfl⟩
theorem agr_table (p:DeedP) (s:CS):Agr (ftableT p s) (tableT p s):=agr_fmt (Agr.refl _)
def actF (s:CS):DeedP×CS:=if (numC s).2.bad=true then (pRaw 2 (numC s).1,(numC s).2) else ({pRaw 2 (numC s).1 with act:=(readA (numC s).2.b).1},⟨[],decide ((readA (numC s).2.b).2.2≠0)⟩)
def rawF (k:Int) (s:CS):DeedP×CS:=if k=2 then actF s else if k=1 then ftableT (pRaw 1 (numC s).1) (numC s).2 else (pRaw k (numC s).1,(numC s).2)
theorem raw_agr (k:Int) (s:CS):Agr (rawF k s) (rawD k s):=by
 unfold rawF rawD
 by_cases h2:k=2
 ·subst h2
  rw [if_pos rfl,if_neg (by decide),if_pos rfl]
  unfold actF actC
  cases hb:(numC s).2.bad with
  |true=>
   rw [if_pos rfl]
   exact ⟨by simp [hb],fun h=>by simp at h⟩
  |false=>
   rw [if_neg (by decide)]
   exact ⟨by simp,fun h=>by simp [pRaw]⟩
 ·by_cases h1:k=1
  ·subst h1
   rw [if_neg (by decide),if_pos rfl,if_pos rfl,beginC_eq]
   exact agr_table _ _
  ·rw [if_neg h2,if_neg h1,if_neg h1,if_neg h2]
   exact Agr.refl _
theorem fin_agr {x y:DeedP×CS} (h:Agr x y):finD x=finD y:=by
 cases hb:y.2.bad with
 |true=>
  unfold finD
  rw [if_pos (.inl (h.1.trans hb)),if_pos (.inl hb)]
 |false=>rw [h.2 hb]
theorem readF_eq (y:UInt8) (r:List UInt8):readD (y::r)=finD (rawF (kindD y) ⟨r,false⟩):=(fin_agr (raw_agr _ _)).symm
end
end Go.Proofs.YtioigihakjlopaaGreat
