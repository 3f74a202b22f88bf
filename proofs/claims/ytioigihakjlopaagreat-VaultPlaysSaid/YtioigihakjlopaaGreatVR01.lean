import Derived.WalkKit
import Derived.WalkSpells
import Derived.WalkLawsBesides
import Derived.Lib.Hide
import Derived.Deep.MidRow
import Derived.Deep.LoopGhost
import Derived.Deep.QuietTactic
import Derived.BigQuiet
import Derived.Lib.SlBytesConst
import Derived.Deep.RegionHeld3
import Derived.Laws.ResultCell
import Derived.Laws.CopyRow
import Derived.Deep.DeepCutAuto
import Derived.ProofKit
import Derived.OpenShut
import Derived.ShutString
import Derived.ChangeOld
import Derived.Deep.Matrix
import Derived.SizedLaws
import Derived.Test.YtioigihakjlopaaGreatRows
import Derived.OwnWalk
import Derived.ArgAppend
namespace Go.Proofs.YtioigihakjlopaaGreat
open Go.Proofs.Tryz
set_option linter.unusedVariables false
set_option linter.unusedSimpArgs false
set_option maxHeartbeats 16000000
set_option maxRecDepth 100000
section
open Go.RowKit
abbrev Le:=List UInt8
abbrev Lt:=Option Addr
abbrev AS:=Array Value
abbrev AT:=List Value
abbrev As:=World
theorem At {α:Sort _} (e:α):∃x,x=e:=⟨e,rfl⟩
abbrev VU:=@Nat.le_refl
abbrev VV:=@if_neg
abbrev VW:=@Below.refl
abbrev Vd:=@Nat.le_trans
abbrev Vz:=@if_pos
abbrev Vq:=@heap_setCell_other
abbrev Vj:=@List.take_succ_eq_append_getElem
abbrev Vx:=@World.block_lt_of_cell?
abbrev VO:=@decide_eq_false
abbrev VX:=@List.eq_nil_of_length_eq_zero
abbrev VY:=@Bool.eq_false_iff
abbrev VZ:=@List.take_of_length_le
abbrev VK:=@decide_eq_true
abbrev VJ:=@List.getElem?_eq_getElem
abbrev VH:=@List.mem_map
abbrev VG:=@List.getD_eq_getElem?_getD
abbrev VF:=@List.map_append
abbrev VE:=@World.cell?_of_block
abbrev VS:=@List.mem_singleton
abbrev VT:=@Array.getElem?_eq_some_iff
abbrev VR:=@IntKind.wrap_i64
abbrev VP:=@Nat.lt_of_lt_of_le
abbrev VQ:=@List.getElem_mem
abbrev VN:=@Nat.zero_add
abbrev VM:=@Nat.le_of_eq
abbrev VC:=@List.length_cons
abbrev VD:=@IntWalk.i64_in
abbrev Ve:=@List.mem_append
abbrev Vf:=@List.append_assoc
abbrev Vg:=@WideAt.sameKey_eq
abbrev Vh:=@Bool.and_eq_true
abbrev Vi:=@Value.slice.injEq
abbrev Vk:=@List.mem_cons
abbrev Vl:=@Ne.symm
abbrev Vm:=@List.getElem?_eq_some_iff
abbrev Vn:=@List.flatMap_cons
abbrev Vo:=@List.getElem?_append_left
abbrev Vp:=@Below.heap_alloc
abbrev Vr:=@Nat.mul_one
abbrev Vs:=@Array.getElem?_setIfInBounds
abbrev Vt:=@Nat.zero_le
abbrev Vu:=@Option.some.injEq
abbrev Vv:=@List.any_eq_true
abbrev Vw:=@List.getElem?_append_right
abbrev Vy:=@List.mem_filter
abbrev WU:=@Bool.true_and
abbrev WA:=@Addr.add_mid
abbrev WV:=@run_underlying
abbrev WW:=@decide_eq_true_iff
abbrev Wd:=@World.grownBy.refl
abbrev Wz:=@Array.getElem?_eq_none
abbrev Wq:=@Exit.noGoto_ret
abbrev Wj:=@Bool.false_and
abbrev Wx:=@BitVec.eq_of_toNat_eq
abbrev WL:=@List.getElem_map
abbrev WO:=@List.append_nil
abbrev WX:=@Bool.eq_iff_iff
abbrev WY:=@List.mem_map_of_mem
abbrev WZ:=@results_none
abbrev WK:=@List.getElem?_eq_none
abbrev WJ:=@Array.getElem?_toList
abbrev WH:=@Option.map_eq_some_iff
abbrev WG:=@List.map_cons
abbrev WF:=@List.getElem?_take_of_lt
abbrev WE:=@Result.andThen_ok
abbrev WS:=@congrArg
abbrev WT:=@Int.tdiv_eq_ediv_of_nonneg
abbrev WR:=@bodyPost_end
abbrev WP:=@List.take_append_drop
abbrev WQ:=@List.map_congr_left
abbrev WN:=@Int.toNat_natCast
abbrev WM:=@Nat.add_assoc
abbrev WB:=@List.map_take
abbrev WD:=@run_sliceAt_array_all
abbrev We:=@List.map_map
abbrev Wf:=@Go.setRow_other
abbrev Wg:=@Int.tmod_eq_emod_of_nonneg
abbrev Wh:=@List.getElem?_drop
abbrev Wi:=@BitVec.toNat_ofNat
abbrev Wk:=@List.mem_range
abbrev Wl:=@List.nil_append
abbrev Wm:=@World.size_alloc
abbrev Wn:=@Nat.mod_eq_of_lt
abbrev Wo:=@List.flatMap_append
abbrev Wp:=@Sem.run_bind
abbrev Wr:=@Nat.mul_comm
abbrev Ws:=@Nat.mul_le_mul_right
abbrev Wt:=@UInt8.toNat_inj
abbrev Wu:=@of_decide_eq_true
abbrev Wv:=@congrFun
abbrev Ww:=@Option.some.inj
abbrev Wy:=@List.cons.injEq
abbrev XU:=@BitVec.toNat_ofInt
abbrev XA:=@Array.ext_getElem?
abbrev XV:=@Nat.add_mul
abbrev XW:=@List.drop_drop
abbrev Xd:=@BitVec.or_comm
abbrev Xz:=@List.length_nil
abbrev Xq:=@List.length_singleton
abbrev Xj:=@BitVec.toNat_setWidth
abbrev Xx:=@List.all_eq_true
abbrev XL:=@List.getElem_range
abbrev XO:=@List.drop_append_of_le_length
abbrev XX:=@decide_eq_true_eq
abbrev XY:=@beq_iff_eq
abbrev XZ:=@List.length_set
abbrev XK:=@List.find?_cons
abbrev XJ:=@wpList_plain
abbrev XH:=@Nat.le_of_lt
abbrev XG:=@Go.WideMaps.keyOf_string_mk
abbrev XF:=@Nat.mul_le_mul
abbrev XE:=@List.find?_eq_none
abbrev XS:=@Nat.shiftRight_eq_div_pow
abbrev XT:=@List.drop_eq_getElem_cons
abbrev XR:=@List.nodup_cons
abbrev XP:=@List.map_nil
abbrev XQ:=@List.nodup_append
abbrev XN:=@Bool.not_eq_true'
abbrev XM:=@BitVec.ofInt_natCast
abbrev XB:=@List.length_pos_iff
abbrev XC:=@List.getElem_of_mem
abbrev XD:=@ByteArray.toList_mk
abbrev Xe:=@Array.length_toList
abbrev Xf:=@List.cons_append
abbrev Xg:=@BitVec.xor_assoc
abbrev Xh:=@List.take_append_of_le_length
abbrev Xi:=@setRow_other
abbrev Xk:=@Sem.run_pure
abbrev Xl:=@Nat.lt_of_le_of_lt
abbrev Xm:=@Nat.add_sub_cancel
abbrev Xn:=@Nat.eq_zero_of_not_pos
abbrev Xo:=@List.filter_eq_nil_iff
abbrev Xp:=@List.drop_of_length_le
abbrev Xr:=@List.drop_eq_nil_of_le
abbrev Xs:=@BitVec.toNat_shiftLeft
abbrev Xt:=@Option.map_some
abbrev Xu:=@Nat.not_lt_zero
abbrev Xv:=@BitVec.toInt_lt
abbrev Xw:=@BitVec.le_toInt
abbrev Xy:=@Addr.mk.injEq
abbrev YU:=@List.length_filter_le
abbrev YA:=@Lib.run_eql_slice_nil
abbrev YV:=@if_true
abbrev YW:=@Nat.le_succ_of_le
abbrev Yd:=@List.length_range
abbrev Yz:=@List.getElem_drop
abbrev Yq:=@List.take_left
abbrev Yj:=@List.pairwise_append
abbrev Yx:=@List.eraseIdx_of_length_le
abbrev YL:=@Std.Legacy.Range.forIn_eq_forIn_range'
abbrev YO:=@bodyPost_ret
abbrev YX:=@Nat.lt_or_ge
abbrev YY:=@decide_eq_decide
abbrev YZ:=@Nat.shiftLeft_eq
abbrev YK:=@List.getElem_append_right
abbrev YJ:=@List.flatten_append
abbrev YH:=@Below.setCell
abbrev YG:=@List.map_drop
abbrev YF:=@BitVec.toNat_ushiftRight
abbrev YE:=@Array.size_setIfInBounds
abbrev YS:=@Obj.cells.injEq
abbrev YT:=@List.range_succ
abbrev YR:=@Bool.false_eq_true
abbrev YP:=@Nat.le_succ
abbrev YQ:=@decide_eq_false_iff_not
abbrev YN:=@Nat.add_sub_cancel_left
abbrev YM:=@List.findIdx?_eq_some_iff_getElem
abbrev YB:=@List.eraseIdx_append_of_length_le
abbrev YC:=@Array.setIfInBounds_setIfInBounds
abbrev YD:=@callsIn_wide
abbrev Ye:=@Nat.sub_self
abbrev Yf:=@Nat.add_zero
abbrev Yg:=@Act.put_comm
abbrev Yh:=@List.drop_left
abbrev Yi:=@List.ext_getElem?
abbrev Yk:=@IntWalk.wrap64_in
abbrev Yl:=@World.cell?_alloc_mark
abbrev Ym:=@List.length_pos_of_mem
abbrev Yn:=@List.getElem_cons_zero
abbrev Yo:=@Array.getElem?_setIfInBounds_ne
abbrev Yp:=@List.set_getElem_self
abbrev Yr:=@List.set_append_right
abbrev Ys:=@BitVec.shiftRight_add
abbrev Yt:=@Option.getD_some
abbrev Yu:=@List.not_mem_nil
abbrev Yv:=@List.drop_length
abbrev Yw:=@Nat.and_two_pow_sub_one_eq_mod
abbrev Yy:=@List.find?_eq_some_iff_getElem
abbrev ZU:=@List.take_set
abbrev ZA:=@and_true
abbrev ZV:=@Bool.or_eq_false_iff
abbrev ZW:=@Result.ok.injEq
abbrev Zd:=@BitVec.xor_zero
abbrev Zz:=@run_firstCells_some
abbrev Zq:=@Int.toNat_of_nonneg
abbrev Zj:=@Nat.zero_mul
abbrev Zx:=@Nat.add_comm
abbrev ZL:=@ready_mono
abbrev ZO:=@heap_alloc_new
abbrev ZX:=@Bool.and_false
abbrev ZY:=@of_decide_eq_false
abbrev ZZ:=@UInt8.toNat_ofNat'
abbrev ZK:=@Nat.eq_zero_or_pos
abbrev ZJ:=@List.filter_append
abbrev ZH:=@Below.trans
abbrev ZG:=@run_sliceAt_slice
abbrev ZF:=@List.getElem_take
abbrev ZE:=@List.getElem?_map
abbrev ZS:=@List.foldl_append
abbrev ZT:=@List.find?_append
abbrev ZR:=@IntWalk.u8_in
abbrev ZP:=@true_and
abbrev ZQ:=@mem_ready
abbrev ZN:=@World.ownsRow.lt
abbrev ZM:=@Nat.le_of_not_lt
abbrev ZB:=@List.isEmpty_iff
abbrev ZC:=@List.ext_getElem
abbrev ZD:=@Nat.sub_zero
abbrev Ze:=@Nat.pow_succ
abbrev Zf:=@Nat.ne_of_gt
abbrev Zg:=@or_false
theorem cL {p:Prop} (h:p:=by (try unfold oX);repeat (first|assumption|exact Below.refl _ _|exact lp (Below.refl _ _)|exact Below.mono (by assumption) (by first|(simp;done)|(simp;omega)|omega)|refine ak ?_ (by first|(simp;done)|(simp;omega)|omega) _|refine Below.setCell ?_ (by first|(simp;done)|(simp;omega)|omega) _|refine Below.alloc ?_ (by first|(simp;done)|(simp;omega)|omega) _|refine bS ?_ _|refine Below.drew ?_|refine lp ?_|refine aa ?_ (by assumption))):p:=h
theorem lA {p:Prop} (h:p:=by first|(simp;done)|(simp;omega)|omega):p:=h
theorem oA {p:Prop} (h:p:=by omega):p:=h
theorem dcA {p:Prop} (h:p:=by decide):p:=h
theorem krA {p:Prop} (h:p:=by kernel_rfl):p:=h
theorem asA {p:Prop} (h:p:=by assumption):p:=h
theorem soA {p:Prop} (h:p:=by simp;omega):p:=h
theorem skA {p:Prop} (h:p:=by simp):p:=h
theorem mxA {p:Prop} (h:p:=by unfold maxLen;omega):p:=h
theorem dkA {p:Prop} (h:p:=by decide+kernel):p:=h
theorem wiA {p:Prop} (h:p:=by rw [IntKind.wrap_i64];omega):p:=h
theorem rfA {p:Prop} (h:p:=by rfl):p:=h
theorem gnA {p:Prop} (h:p:=by go_num):p:=h
theorem cdA {p:Prop} (h:p:=by intro c a d v w h;cases d<;>exact h):p:=h
theorem Hd {p:Prop} (h:p):Hid p:=Lib.hid h
theorem sTA {α:Type _} (l:List α) (i:Nat) (a:α):l.toArray.setIfInBounds i a=(l.set i a).toArray:=List.setIfInBounds_toArray ..
theorem laA {α:Type _} {l m:List α}:(l++m).length=l.length+m.length:=List.length_append ..
theorem lmA {α:Type _} {β:Type _} {l:List α} (f:α->β):(l.map f).length=l.length:=List.length_map ..
theorem ltA {α:Type _} {i:Nat} {l:List α}:(l.take i).length=min i l.length:=List.length_take ..
theorem ldA {α:Type _} {i:Nat} {l:List α}:(l.drop i).length=l.length-i:=List.length_drop ..
end
section
open Go.RowKit
def U8 (a:UInt8):Int:=a.toNat
def U32 (a:BitVec 32):Int:=a.toNat
def U64 (a:BitVec 64):Int:=a.toNat
theorem BA (a:UInt8):0<=U8 a:=by simp [U8]
theorem yA (a:UInt8):U8 a<=255:=by have:=a.toBitVec.isLt;simp only [U8];have h:a.toNat<256:=this;omega
theorem Nz {a b:UInt8}:U8 a=U8 b↔a=b:=by
 simp only [U8];constructor
 .intro h;exact Wt.1 (by exact_mod_cast h)
 .rintro rfl;rfl
theorem KY {a b:BitVec 32}:U32 a=U32 b↔a=b:=by
 simp only [U32];constructor
 .intro h;exact Wx (by exact_mod_cast h)
 .rintro rfl;rfl
theorem EG (a b:UInt8):(U8 a==U8 b)=(a==b):=by
 rw [WX];simp [Nz]
theorem KZ (a b:BitVec 32):(U32 a==U32 b)=(a==b):=by
 rw [WX];simp [KY]
theorem zw (a:UInt8):BitVec.ofInt 8 (U8 a)=a.toBitVec:=by
 have:U8 a=(a.toBitVec.toNat:Int):=rfl;rw [this];simp
theorem gG (a:BitVec 32):BitVec.ofInt 32 (U32 a)=a:=by simp [U32]
theorem ig (a:UInt8):BitVec.ofInt 32 (U8 a)=a.toBitVec.setWidth 32:=by
 apply Wx;have h:a.toNat<256:=a.toBitVec.isLt;have e:a.toBitVec.toNat=a.toNat:=rfl;simp only [U8,XU,Xj,e];omega
theorem IL (a:BitVec 8):IntKind.u8.wrap (a.toNat:Int)=U8 ⟨a⟩:=by
 rw [ZR];rfl;have:=a.isLt;omega
theorem sZ (a:BitVec 32):IntKind.u32.wrap (a.toNat:Int)=U32 a:=by
 rw [IntWalk.u32_in];rfl;have:=a.isLt;omega
theorem yH (a:BitVec 64):IntKind.u64.wrap (a.toNat:Int)=U64 a:=by
 rw [IntWalk.u64_in];rfl;have:=a.isLt;omega
theorem my (x y:Int):bits .xor .u8 x y=U8 ⟨BitVec.ofInt 8 x^^^BitVec.ofInt 8 y⟩:=IL _
theorem iz (x y:Int):bits .xor .u32 x y=U32 (BitVec.ofInt 32 x^^^BitVec.ofInt 32 y):=sZ _
theorem iA (x y:Int):bits .and .u32 x y=U32 (BitVec.ofInt 32 x&&&BitVec.ofInt 32 y):=sZ _
theorem jl (x y:Int):bits .or .u32 x y=U32 (BitVec.ofInt 32 x|||BitVec.ofInt 32 y):=sZ _
theorem wJ (x y:Int):bits .and .u64 x y=U64 (BitVec.ofInt 64 x&&&BitVec.ofInt 64 y):=yH _
theorem yt (x y:Int):bits .or .u64 x y=U64 (BitVec.ofInt 64 x|||BitVec.ofInt 64 y):=yH _
theorem qB (a:BitVec 32):BitVec.ofInt 32 IntKind.u32.max^^^a= ~~~a:=by
 have:BitVec.ofInt 32 IntKind.u32.max=BitVec.allOnes 32:=dcA;rw [this,BitVec.allOnes_xor]
theorem od (a:BitVec 32) (k:Nat):U32 a/((2^k:Nat):Int)=U32 (a>>>k):=by
 simp [U32,XS]
theorem kt (a:BitVec 32) (k:Nat):U32 a/(2:Int)^k=U32 (a>>>k):=by
 rw [<-od];norm_cast
theorem yB (a:BitVec 64) (k:Nat):U64 a/(2:Int)^k=U64 (a>>>k):=by
 simp only [U64,YF,XS];norm_cast
theorem KX (a:BitVec 32): -U32 a%4294967296=U32 (-a):=by
 have:=a.isLt;simp only [U32,BitVec.toNat_neg];omega
theorem uJ (a:BitVec 32) (k:Nat):U32 a*((2^k:Nat):Int)%4294967296=U32 (a<<<k):=by
 simp only [U32,Xs,YZ];simp
theorem nj (a:BitVec 32):U32 a%256=U8 ⟨a.setWidth 8⟩:=by
 show ((a.toNat:Int))%256=((a.setWidth 8).toNat:Int);simp only [Xj];simp
theorem GP (a:BitVec 64):U64 a%256=U8 ⟨a.setWidth 8⟩:=by
 show ((a.toNat:Int))%256=((a.setWidth 8).toNat:Int);simp only [Xj];simp
def bv (c:UInt8):Value:= .int .u8 (U8 c)
theorem tF (w:As) (a:Addr) (u v:Value):(w.setCell a u).setCell a v=w.setCell a v:=by
 unfold World.setCell;simp only [World.mk.injEq,ZA];apply XA;intro i;simp only [Array.getElem?_modify];split
 .cases w.heap[i]? with
  |none=>rfl
  |some o=>cases o<;>simp;split<;>simp
 .rfl
def av (w:As) (a:Lt) (vs:AT):Prop:=
 ∀i (h:i<vs.length),∃b o,a=some ⟨b,o,none⟩/\w.cell? ⟨b,o+i,none⟩=some vs[i]
theorem av.nil (w:As) (a:Lt):av w a []:=fun i h=>by simp at h
theorem av.at {w:As} {a:Lt} {vs:AT} (h:av w a vs) (C:0<vs.length):
  ∃b o,a=some ⟨b,o,none⟩/\∀i (A:i<vs.length),w.cell? ⟨b,o+i,none⟩=some vs[i]:=by
 obtain ⟨b,o,rfl,_⟩:=h 0 C;refine ⟨b,o,rfl,fun i A=> ?_⟩;obtain ⟨E,I,e,D⟩:=h i A;simp only [Vu,Xy] at e;obtain ⟨rfl,rfl,-⟩:=e;exact D
theorem av.mk {w:As} {b o:Nat} {vs:AT} (h:∀i (A:i<vs.length),w.cell? ⟨b,o+i,none⟩=some vs[i]):
  av w (some ⟨b,o,none⟩) vs:=fun i A=>⟨b,o,rfl,h i A⟩
theorem av.lt {w:As} {b o:Nat} {vs:AT} (h:av w (some ⟨b,o,none⟩) vs) (A:0<vs.length):b<w.heap.size:=by
 obtain ⟨D,E,e,C⟩:=h 0 A;simp only [Vu,Xy] at e;obtain ⟨rfl,rfl,-⟩:=e;exact Vx w _ C
theorem av.below {w w':As} {a:Lt} {vs:AT} (h:av w a vs) (C:Below w.heap.size w w'):av w' a vs:=by
 intro i D;obtain ⟨b,o,e,A⟩:=h i D;exact ⟨b,o,e,by rw [C.cell (Vx w _ A)];exact A⟩
theorem av.alloc {w:As} {a:Lt} {vs:AT} (h:av w a vs) (o:Obj):av (w.alloc o) a vs:=h.below ((VW _ _).alloc (VU _) o)
theorem av.drew {w:As} {a:Lt} {vs:AT} (h:av w a vs):av w.drew a vs:=h
theorem av.drewN {w:As} {a:Lt} {vs:AT} (h:av w a vs) (n:Nat):av (w.drewN n) a vs:=h
theorem bS {B:Nat} {w0 w:As} (h:Below B w0 w) (n:Nat):Below B w0 (w.drewN n):=⟨h.os,h.tape,h.output,h.size,h.block⟩
theorem lp {B:Nat} {w0 w:As} (h:Below B w0 w):Below B w0.drew w:=⟨h.os,h.tape,h.output,h.size,h.block⟩
theorem av.drop {w:As} {b o:Nat} {vs:AT} (k:Nat) (h:av w (some ⟨b,o,none⟩) vs):av w (some ⟨b,o+k,none⟩) (vs.drop k):=by
 refine av.mk fun i A=> ?_;rw [ldA] at A;obtain ⟨D,E,e,C⟩:=h (k+i) oA;simp only [Vu,Xy] at e;obtain ⟨rfl,rfl,-⟩:=e;rw [WM];simpa using C
theorem av.take {w:As} {a:Lt} {vs:AT} (k:Nat) (h:av w a vs):av w a (vs.take k):=by
 intro i A;rw [ltA] at A;obtain ⟨b,o,e,C⟩:=h i oA;exact ⟨b,o,e,by simpa using C⟩
def aj (w:As) (a:Lt) (l:Le):Prop:=av w a (l.map bv)
theorem aj.at {w:As} {a:Lt} {l:Le} (h:aj w a l) (C:0<l.length):
  ∃b o,a=some ⟨b,o,none⟩/\∀i (A:i<l.length),w.cell? ⟨b,o+i,none⟩=some (.int .u8 (U8 l[i])):=by
 obtain ⟨b,o,e,D⟩:=av.at h (by simpa using C);refine ⟨b,o,e,fun i A=> ?_⟩;have:=D i (by simpa using A);simpa [bv] using this
theorem aj.alloc {w:As} {a:Lt} {l:Le} (h:aj w a l) (o:Obj):aj (w.alloc o) a l:=av.alloc h o
theorem aj.drew {w:As} {a:Lt} {l:Le} (h:aj w a l):aj w.drew a l:=h
theorem aj.below {w w':As} {a:Lt} {l:Le} (h:aj w a l) (A:Below w.heap.size w w'):aj w' a l:=av.below h A
theorem aa {w0 w1 A:As} (C:Below w0.heap.size w0 w1) (D:Below w1.heap.size w1 A):Below w0.heap.size w0 A:=C.trans (D.mono C.size)
section
variable {P:Program}
theorem eG {t e:TypeId} {n:Nat} (E:P.underlying t=some (.array n e)) {d:TypeDesc} (I:P.underlying e=some d) (N:d.isRow=false)
  (C:(P.info? e).map (·.size)=some 1) {kk:IntKind} (w:As) (cs:AS) (k:Nat) (v:Value) (J:cs[k]? =some v) (L:k<n):
  (Instr.index t (.agg cs) (.int kk (k:Int))).run P w= .ok v w:=by
 have D:(isAgg e).run P w= .ok false w:=by
  unfold isAgg;rw [Wp,WV I w];cases d<;>simp_all [TypeDesc.isRow]
 cases A:P.info? e with
 |none=>simp [A] at C
 |some i=>
  have M:i.size=1:=(by simpa [A] using C);simp [Instr.index,asIntOf,Wp,WV E,L,sizeOf,typeInfo,A,M,part,D,J]
end
def Blk (w:As) (b:Nat) (cs:AS) (t:TypeId):Prop:=w.heap[b]? =some (.cells cs t (0,0))
section
variable {w w':As} {b:Nat} {cs:AS} {t:TypeId}
theorem Blk.lt (h:Blk w b cs t):b<w.heap.size:=(VT.1 h).1
theorem Blk.new (w:As) (cs:AS) (t:TypeId):Blk (w.alloc (.cells cs t)) w.heap.size cs t:=ZO w _
theorem Blk.new2 (w:As) (cs:AS) (t:TypeId) (o:Obj):Blk ((w.alloc (.cells cs t)).alloc o) w.heap.size cs t:=heap_alloc2_old w _ _
theorem Blk.new2' (w:As) (cs:AS) (t:TypeId) (o:Obj):Blk ((w.alloc o).alloc (.cells cs t)) (w.heap.size+1) cs t:=heap_alloc2_new w _ _
theorem Blk.new3 (w:As) (cs:AS) (t:TypeId) (o p:Obj):Blk (((w.alloc (.cells cs t)).alloc o).alloc p) w.heap.size cs t:=(Vp _ p _ (Blk.new2 w cs t o|>fun h=>(VT.1 h).1)).trans (Blk.new2 w cs t o)
theorem Blk.new3' (w:As) (cs:AS) (t:TypeId) (o p:Obj):Blk (((w.alloc o).alloc (.cells cs t)).alloc p) (w.heap.size+1) cs t:=(Vp _ p _ (Blk.new2' w cs t o|>fun h=>(VT.1 h).1)).trans (Blk.new2' w cs t o)
theorem Blk.new3'' (w:As) (cs:AS) (t:TypeId) (o p:Obj):Blk (((w.alloc o).alloc p).alloc (.cells cs t)) (w.heap.size+2) cs t:=by
 have:=Blk.new ((w.alloc o).alloc p) cs t;have e:((w.alloc o).alloc p).heap.size=w.heap.size+2:=skA;rwa [e] at this
theorem Blk.alloc (h:Blk w b cs t) (o:Obj):Blk (w.alloc o) b cs t:=(Vp w o b h.lt).trans h
theorem Blk.drew (h:Blk w b cs t):Blk w.drew b cs t:=h
theorem Blk.below (h:Blk w b cs t) {B:Nat} (A:Below B w w') (C:b<B):Blk w' b cs t:=(A.block b C).trans h
theorem Blk.old (h:Blk w b cs t) (A:Below w.heap.size w w'):Blk w' b cs t:=(A.block b h.lt).trans h
theorem Blk.cell (h:Blk w b cs t) {i:Nat} {v:Value} (A:cs[i]? =some v):w.cell? ⟨b,i,none⟩=some v:=by
 rw [cell_of_row w b i cs t (0,0) h];exact A
theorem Blk.free (h:Blk w b cs t) (i:Nat):w.frozen? ⟨b,i,none⟩=false:=frozen_of_row w b i cs t h
theorem Blk.set (h:Blk w b cs t) (i:Nat) (v:Value):Blk (w.setCell ⟨b,i,none⟩ v) b (cs.setIfInBounds i v) t:=heap_setCell_same w b i cs t v h
theorem Blk.other (h:Blk w b cs t) (a:Addr) (v:Value) (A:b≠a.block):Blk (w.setCell a v) b cs t:=(Vq w a b v A).trans h
theorem Blk.setRow (h:Blk w b cs t) (A:AS):Blk (w.setRow b A) b A t:=setRow_heap w b cs A t _ h
theorem Blk.setRow_other (h:Blk w b cs t) (g:Nat) (A:AS) (C:b≠g):Blk (w.setRow g A) b cs t:=(Wf w g b A C).trans h
theorem Blk.setRow_self (h:Blk w b cs t):w.setRow b cs=w:=Go.setRow_self w b cs t _ h
theorem ak {B g:Nat} {w0 w:As} (A:Below B w0 w) (C:B<=g) (cs:AS):Below B w0 (w.setRow g cs):=
 A.trans ⟨rfl,rfl,rfl,by simp [World.setRow],fun k D=>Wf w g k cs oA⟩
end
def Ir:TypeDesc->Bool
 | .struct _| .array _ _=>true
 |_=>false
def lY (P:Program) (ty:TypeId) (n:Nat):Prop:=(∃d,P.underlying ty=some d/\Ir d=true)/\(P.info? ty).map (·.size)=some n
section
variable {P:Program}
theorem ap {ops:Array Oper} {rest:List Oper} {o:Oper} {a:Act} {w:As} {Q:Exit->Act->World->Prop} (A:o.guard=none) (ty:TypeId) {n:Nat} (C:lY P ty n) (x:Operand) (D:o.op= .load ty x)
  {g:Nat} (hx:a.eval x= .pointer (some ⟨g,0,none⟩)) {t:TypeId} {cs:AS} (E:Blk w g cs t) (I:cs.size=n)
  (h:wpList P ops Q rest (a.put o.dst (.agg cs)) w):wpList P ops Q (o::rest) a w:=by
 obtain ⟨⟨d,J,M⟩,L⟩:=C;exact wpList_load_row A ty x D g hx t cs (0,0) d E J (by cases d<;>simp_all [Ir]) (by rw [L,I]) h
theorem ae {ops:Array Oper} {rest:List Oper} {o:Oper} {a:Act} {w:As} {Q:Exit->Act->World->Prop} (E:o.guard=none) (ty:TypeId) {n:Nat} (J:lY P ty n) (x y:Operand) (L:o.op= .store ty x y)
  {g:Nat} {cells:AS} (hx:a.eval x= .pointer (some ⟨g,0,none⟩)) (M:a.eval y= .agg cells) {t:TypeId} {A:AS} (N:Blk w g A t) (C:cells.size=n) (I:A.size=n) (D:cells.toList.all (·.oneCell')=true)
  (h:wpList P ops Q rest (a.put o.dst undef) (w.setRow g cells)):wpList P ops Q (o::rest) a w:=
 wpList_store_row E ty x y L g cells hx M t A N (by rw [J.2,C]) (by rw [C,I]) (by rw [Array.all_toList] at D;exact D) h
theorem aX {fn:Func} {R:Ending->World->Prop} {a:Act} {w:As} {p u:Tmp} {ty:TypeId} (C:fn.results= #[.cell p ty,.tmp u]) {n:Nat} (D:lY P ty n) {g:Nat} {t:TypeId} {cs:AS}
  (E:a.tmps.getD p undef= .pointer (some ⟨g,0,none⟩)) (I:Blk w g cs t) (J:cs.size=n) {v:Value} (A:a.tmps.getD u undef=v) (L:a.defers=[]) (M:R (.returned (.tuple #[.agg cs,v])) w):bodyPost P fn R .ret a w:=by
 obtain ⟨⟨d,N,S⟩,O⟩:=D;refine ⟨L,.tuple #[.agg cs,v],?_,M⟩;rw [results_cell_tmp C,E,A];simp [asAddr,Result.andThen,run_loadVar_row w g t ty cs (0,0) d I N (by cases d<;>simp_all [Ir]) (by rw [O,J])]
theorem cT {fn:Func} {R:Ending->World->Prop} {a:Act} {w:As} {p:Tmp} {ty:TypeId} (A:fn.results= #[.cell p ty]) {n:Nat} (C:lY P ty n) {g:Nat} {t:TypeId} {cs:AS}
  (D:a.tmps.getD p undef= .pointer (some ⟨g,0,none⟩)) (E:Blk w g cs t) (I:cs.size=n) (J:a.defers=[]) (L:R (.returned (.agg cs)) w):bodyPost P fn R .ret a w:=by
 obtain ⟨⟨d,M,O⟩,N⟩:=C;exact ⟨J,_,results_cell_row A _ _ _ _ _ _ _ D E M (by cases d<;>simp_all [Ir]) (by rw [N,I]),L⟩
end
theorem dZ {P:Program} {ops:Array Oper} {rest:List Oper} {o:Oper} {a:Act} {w:As} {Q:Exit->Act->World->Prop} (I:o.guard=none) (ty:TypeId) {n:Nat} (J:lY P ty n) (x:Operand) (L:o.op= .load ty x)
  {b A:Nat} (hx:a.eval x= .pointer (some ⟨b,A,none⟩)) {cs:AT} {v:Value} (C:v= .agg cs.toArray) (M:∀j (h:j<cs.length),w.cell? ⟨b,A+j,none⟩=some cs[j]) (Y:cs.length=n)
  (h:wpList P ops Q rest (a.put o.dst v) w):wpList P ops Q (o::rest) a w:=by
 obtain ⟨⟨d,N,O⟩,E⟩:=J;subst C;refine XJ I fun K S=> ?_;have T:(loadCells ⟨b,A,none⟩ cs.length).run P w= .ok cs.toArray w:=
  run_loadCells_list (P:=P) w ⟨b,A,none⟩ cs (fun j v C=>by
   obtain ⟨U,rfl⟩:=Vm.1 C;rw [WA];exact M j U)
 have V:(loadVar ty ⟨b,A,none⟩).run P w= .ok (.agg cs.toArray) w:=by
  cases D:P.info? ty with
  |none=>simp [D] at E
  |some i=>
   have X:i.size=cs.length:=(by simp [D] at E;omega);cases d<;>simp [Ir] at O<;>simp [loadVar,Wp,WV N,sizeOf,typeInfo,D,X,T,isAgg]
 unfold Oper.wp execOp;simp only [L,hx,Instr.loadAt,Instr.sureAddr,Wp,Xk,WE,V];exact S _ _ h
theorem dv {P:Program} {w:As} {ty:TypeId} {n:Nat} (E:lY P ty n) {b A:Nat} {cs:AT} (I:∀j (h:j<cs.length),w.cell? ⟨b,A+j,none⟩=some cs[j]) (T:cs.length=n):(loadVar ty ⟨b,A,none⟩).run P w= .ok (.agg cs.toArray) w:=by
 obtain ⟨⟨d,J,L⟩,D⟩:=E;have M:(loadCells ⟨b,A,none⟩ cs.length).run P w= .ok cs.toArray w:=
  run_loadCells_list (P:=P) w ⟨b,A,none⟩ cs (fun j v N=>by
   obtain ⟨O,rfl⟩:=Vm.1 N;rw [WA];exact I j O)
 cases C:P.info? ty with
 |none=>simp [C] at D
 |some i=>
  have S:i.size=cs.length:=(by simp [C] at D;omega);cases d<;>simp [Ir] at L<;>simp [loadVar,Wp,WV J,sizeOf,typeInfo,C,S,M,isAgg]
theorem aI {P:Program} {w:As} {o:Oper} {f:Operand->Value} (ty:TypeId) {n:Nat} (C:lY P ty n) (x:Operand) (D:o.op= .load ty x)
  {b A:Nat} (hx:f x= .pointer (some ⟨b,A,none⟩)) {cs:AT} {v:Value} (E:v= .agg cs.toArray) (I:∀j (h:j<cs.length),w.cell? ⟨b,A+j,none⟩=some cs[j]) (J:cs.length=n):
  (execOp f o).run P w= .ok (.value v) w:=by
 subst E;unfold execOp;simp only [D,hx,Instr.loadAt,Instr.sureAddr,Wp,Xk,WE,dv C I J]
theorem uA {P:Program} {w:As} {o:Oper} {f:Operand->Value} (op:BinOp) (t:TypeId) (x y:Operand) {C:TypeId} (D:o.op= .binOp op t x y C) {A ys:AS} (hx:f x= .agg A) (E:f y= .agg ys) (I:P.eqGuardType P.depth t=false)
  {v:Value} (J:(binOp op t (.agg A) (.agg ys)).run P w= .ok v w):(execOp f o).run P w= .ok (.value v) w:=by
 unfold execOp;simp only [D,hx,E,Wp,run_eqGuard_agg w op t x y A ys I,WE,J,Xk]
theorem av.elem {α:Type} {g:α->AT} {sz:Nat} (A:∀y,(g y).length=sz) {w:As} {a:Lt} {l:List α} (h:av w a (l.flatMap g)) (O:0<sz) (k:Nat) (J:k<l.length):
  ∃b o,a=some ⟨b,o,none⟩/\b<w.heap.size/\∀j (C:j<(g l[k]).length),w.cell? ⟨b,o+k*sz+j,none⟩=some (g l[k])[j]:=by
 have D:∀l:List α,(l.flatMap g).length=l.length*sz:=fun l=>by
  induction l with
  |nil=>simp
  |cons y l ih=>rw [Vn,laA,A,ih,VC,XV];omega
 have get:∀(l:List α) (i r:Nat),r<sz->(h:i<l.length)->(l.flatMap g)[i*sz+r]? =(g l[i])[r]? :=by
  intro l
  induction l with
  |nil=>intro i r _ h;simp at h
  |cons y l ih=>
   intro i r L h;cases i with
   |zero=>rw [Vn,Zj,VN,Vo (by rw [A];exact L)];rfl
   |succ i=>
    rw [Vn,Vw (by rw [A,XV];omega),A];have:(i+1)*sz+r-sz=i*sz+r:=(by rw [XV];omega);rw [this,ih i r L (by simpa using h)];rfl
 have E:0<(l.flatMap g).length:=(by rw [D];exact Nat.mul_pos oA O);obtain ⟨b,o,rfl,S⟩:=h.at E;refine ⟨b,o,rfl,h.lt E,fun j C=> ?_⟩;have N:j<sz:=(by rw [<-A l[k]];exact C);have I:k*sz+j<(l.flatMap g).length:=by
  rw [D];have:(k+1)*sz<=l.length*sz:=Ws _ J;rw [XV] at this;omega
 have T:=S (k*sz+j) I;have M:=get l k j N J;rw [VJ I,VJ C] at M;rw [WM,T,Ww M]
def bC (P:Program) (t e:TypeId) (size bytes:Nat):Prop:=
 P.underlying t=some (.slice e)/\0<size/\∃i z,P.info? e=some i/\i.zero=some z/\i.size=size/\i.bytes=bytes/\z.cells.size=size
theorem bC.mk {P:Program} {t e:TypeId} {z:Value} {size bytes:Nat} (A:P.underlying t=some (.slice e)) (C:(P.info? e).map (fun i=>(i.zero,i.size,i.bytes))=some (some z,size,bytes))
  (D:z.cells.size=size) (E:0<size):bC P t e size bytes:=by
 obtain ⟨i,I,J,L,M⟩:=info_parts C;exact ⟨A,E,i,z,I,J,L,M,D⟩
def Own (w:As) (B:Nat) (e:TypeId) (size:Nat) (a:Lt) (n c:Nat) (vs:AT):Prop:=w.ownsRow B e size (.slice a n c) n vs
section
variable {w w':As} {B:Nat} {e:TypeId} {size:Nat} {a:Lt} {n c:Nat} {vs:AT}
theorem Own.row (h:Own w B e size a n c vs):av w a vs:=by
 intro i C;rcases h.2 with ⟨A,D⟩|⟨g,cap,E,A,_⟩
 .have:=h.1;subst D;simp only [Zj] at this;omega
 .simp only [Vi] at A;obtain ⟨rfl,-,-⟩:=A;have:=World.ownsRow.cells h (g:=g) rfl i vs[i] (VJ C);rw [WA] at this;exact ⟨g,0,rfl,this⟩
theorem Own.length (h:Own w B e size a n c vs):vs.length=n*size:=h.1
theorem Own.nil (w:As) (B:Nat) (e:TypeId) (size:Nat):Own w B e size none 0 0 []:=World.ownsRow_nil w B e size
theorem Own.lower {B':Nat} (h:Own w B e size a n c vs) (D:B'<=B):Own w B' e size a n c vs:=by
 refine ⟨h.1,?_⟩;rcases h.2 with A|⟨g,cap,C,E,A,I⟩
 .exact .inl A
 .exact .inr ⟨g,cap,C,E,Vd D A,I⟩
theorem Own.old (h:Own w B e size a n c vs) (A:Below w.heap.size w w'):Own w' B e size a n c vs:=
 World.ownsRow.kept (row:=none) h ⟨A.os,A.tape,A.output,A.size,fun k C _=>A.block k C⟩ (by cases D:(Value.slice a n c).ownBlock<;>simp)
theorem Own.drew (h:Own w B e size a n c vs):Own w.drew B e size a n c vs:=h
theorem Own.alloc (h:Own w B e size a n c vs) (o:Obj):Own (w.alloc o) B e size a n c vs:=World.ownsRow.alloc h o
theorem Own.le (h:Own w B e size a n c vs):n<=c:=by
 rcases h.2 with ⟨A,E⟩|⟨g,cap,C,A,_,_,D,_⟩
 .simp only [Vi] at A;omega
 .simp only [Vi] at A;omega
theorem Own.le_max (h:Own w B e size a n c vs):n<=maxLen:=by
 rcases h.2 with ⟨A,E⟩|⟨g,cap,C,A,_,_,D,I,_⟩
 .omega
 .omega
theorem Own.grown (h:Own w B e size a n c vs) {w0:As} {A:Nat} (C:Below A w0 w) (D:A<=B) (E:w.grownBy w' (Value.slice a n c).ownBlock) (I:A<=w.heap.size):Below A w0 w':=
 C.grown E I (fun k J=>Vd D (ZN h k J).1)
theorem Blk.grown {b:Nat} {cs:AS} {t:TypeId} (h:Blk w b cs t) {row:Option Nat} (C:w.grownBy w' row) (A:row≠some b):Blk w' b cs t:=
 (C.block b h.lt (fun e=>A e.symm)).trans h
theorem av.grown {b o:Nat} {A:AT} (h:av w (some ⟨b,o,none⟩) A) {row:Option Nat} (E:w.grownBy w' row) (D:row≠some b):av w' (some ⟨b,o,none⟩) A:=by
 intro i I;obtain ⟨L,M,e,J⟩:=h i I;have C:=e;simp only [Vu,Xy] at C;obtain ⟨rfl,rfl,-⟩:=C;exact ⟨b,o,rfl,E.cell J (fun e=>D e.symm)⟩
end
theorem Own.blk {w:As} {B:Nat} {e:TypeId} {size:Nat} {a:Lt} {n c:Nat} {vs:AT} (h:Own w B e size a n c vs) (L:0<n):
  ∃g A,a=some ⟨g,0,none⟩/\B<=g/\Blk w g A e/\A.toList.take (n*size)=vs/\A.size=c*size:=by
 rcases h.2 with ⟨_,M⟩|⟨g,cap,A,C,D,E,_,_,I,J⟩
 .omega
 .simp only [Vi] at C;obtain ⟨rfl,-,rfl⟩:=C;exact ⟨g,A,rfl,D,E,J,I⟩
section
variable {w:As} {B:Nat} {e:TypeId} {g n c:Nat} {vs:AT}
theorem Own.at (h:Own w B e 1 (some ⟨g,0,none⟩) n c vs) (C:0<n):B<=g/\∃A,Blk w g A e/\A.toList.take n=vs/\A.size=c/\n<=c:=by
 obtain ⟨M,A,D,E,I,J,L⟩:=h.blk C;cases D;exact ⟨E,A,I,by simpa using J,by simpa using L,h.le⟩
theorem Own.cell (h:Own w B e 1 (some ⟨g,0,none⟩) n c vs) (i:Nat) (C:i<vs.length):w.cell? ⟨g,i,none⟩=some vs[i]:=by
 obtain ⟨b,o,D,A⟩:=h.row i C;cases D;rw [VN] at A;exact A
theorem Own.set (h:Own w B e 1 (some ⟨g,0,none⟩) n c vs) (i:Nat) (M:i<n) (v:Value):Own (w.setCell ⟨g,i,none⟩ v) B e 1 (some ⟨g,0,none⟩) n c (vs.set i v):=by
 obtain ⟨D,A,E,I,J,C⟩:=h.at oA;refine ⟨by rw [XZ];exact h.1,.inr ⟨g,c,A.setIfInBounds i v,rfl,D,E.set i v,C,?_,by simp [J],?_⟩⟩
 .rcases h.2 with ⟨_,N⟩|⟨_,_,_,L,_,_,_,O,_⟩
  .omega
  .simp only [Vi] at L;omega
 .rw [<-I];simp [ZU]
end
theorem kY {P:Program} {w:As} (base:Nat) (t ty e:TypeId) (i:TypeInfo) (size:Nat) (A:P.underlying t=some (.slice e)) (C:P.info? e=some i)
  (v:Value) (n c:Nat) (I:AT) (D:w.ownsRow base e size v n I):
  (Builtin.append_ #[t,t] ty #[v,.slice none 0 c]).run P w= .ok v w:=by
 rcases D.2 with ⟨rfl,rfl⟩|⟨g,cap,J,rfl,_,_,E,_⟩
 .simp [Builtin.append_,WV A,sizeOf,typeInfo,C,Builtin.lenOf,Builtin.firstCells]
 .simp [Builtin.append_,WV A,sizeOf,typeInfo,C,Builtin.lenOf,Builtin.firstCells,E,storeCells]
theorem al {P:Program} {w:As} {ops:Array Oper} {rest:List Oper} {o:Oper} {a:Act} {Q:Exit->Act->World->Prop} (S:o.guard=none) (s x:Operand) (t:TypeId)
  (T:o.op= .call {callee:= .builtin .append,args:= #[s,x],argTypes:= #[t,t]}) {e:TypeId} {size bytes:Nat} (hT:bC P t e size bytes)
  {B:Nat} {C:Lt} {n D:Nat} {I:AT} (U:a.eval s= .slice C n D) (L:Own w B e size C n D I)
  {M:Lt} {m xc:Nat} {A:AT} (hx:a.eval x= .slice M m xc) (E:av w M A) (N:A.length=m*size) (h1:∀u∈A,u.oneCell'=true)
  (A1:n+m<=maxLen) (Z:(n+m)*bytes<=140737488355328) (d:B<=w.heap.size)
  (h:∀a' c' w',Own w' B e size a' (n+m) c' (I++A)->w.grownBy w' (Value.slice C n D).ownBlock->wpList P ops Q rest (a.put o.dst (.slice a' (n+m) c')) w'):
  wpList P ops Q (o::rest) a w:=by
 obtain ⟨V,A2,i,z,X,hz,q,A3,A4⟩:=hT;have y:∀(J:Value) (w':As),w'.ownsRow B e size J (n+m) (I++A)->∃a' c',J= .slice a' (n+m) c':=by
  intro J w' h';rcases h'.2 with ⟨rfl,hn⟩|⟨g,cap,A6,rfl,_⟩
  .exact ⟨none,0,by rw [hn]⟩
  .exact ⟨_,_,rfl⟩
 match M,hx,E with
 |none,hx,E=>
  have A5:A=[]:=by
   cases A with
   |nil=>rfl
   |cons u r=>obtain ⟨b,o,O,_⟩:=E 0 skA;cases O
  subst A5;have hm:m=0:=by
   simp only [Xz] at N;rcases Nat.mul_eq_zero.1 N.symm with h|h
   .exact h
   .omega
  subst hm;refine XJ S fun K hK=> ?_;have A0:=kY (P:=P) (w:=w) B t o.type e i size V X (.slice C n D) n xc I L;unfold Oper.wp;simp [execOp,T,resolve,invoke,builtin,U,hx,A0,Result.andThen];exact hK _ _ (by simpa using h C D w (by simpa using L) (Wd _ _))
 |some ad,hx,E=>
  refine wpList_append_own w S s x t T B e i z size bytes V X hz q A3 A4 A2 (.slice C n D) n I U L ad m xc A hx N ?_ h1 A1 Z d ?_
  .intro j u hu;have Y:j<A.length:=(Vm.1 hu).1;obtain ⟨b,o,O,hc⟩:=E j Y;obtain rfl:=Ww O;rw [WA,hc,<-hu,VJ Y]
  .intro J w' hown' hg _;obtain ⟨a',c',rfl⟩:=y J w' hown';exact h a' c' w' hown' hg
theorem Own.lit {w:As} {B:Nat} {e:TypeId} (cs:AS) (vs:AT) (n:Nat) (hcs:cs.toList=vs) (A:vs.length=n) (C:B<=w.heap.size) (D:n<=maxLen):
  Own (w.alloc (.cells cs e)) B e 1 (some ⟨w.heap.size,0,none⟩) n n vs:=by
 subst hcs;exact World.ownsRow_lit w cs n C D (by rw [<-A];simp)
theorem de (l:AT) (h:l.all (·.oneCell')=true):∀u∈l,u.oneCell'=true:=Xx.1 h
theorem cV (l:Le):∀u∈l.map bv,u.oneCell'=true:=by
 intro u A;obtain ⟨_,_,rfl⟩:=VH.1 A;rfl
theorem ag {P:Program} {c:Code} {Q:Exit->Act->World->Prop} {a:Act} {W:As} (F:World->Prop) (C:F W) (h:∀A,F A->c.wp P Q a A):c.wp P Q a W:=h W C
theorem Own.cap_le {w:As} {B:Nat} {e:TypeId} {size:Nat} {a:Lt} {n c:Nat} {vs:AT} (h:Own w B e size a n c vs):c<=maxLen:=by
 rcases h.2 with ⟨A,D⟩|⟨g,cap,C,A,_,_,_,E,_⟩
 .simp only [Vi] at A;unfold maxLen;omega
 .simp only [Vi] at A;omega
theorem Own.setCell_lt {w:As} {B:Nat} {e:TypeId} {size:Nat} {a:Lt} {n c:Nat} {vs:AT} (h:Own w B e size a n c vs) (x:Addr) (v:Value) (hx:x.block<B):Own (w.setCell x v) B e size a n c vs:=by
 refine ⟨h.1,?_⟩;rcases h.2 with A|⟨g,cap,C,D,A,E,I⟩
 .exact .inl A
 .exact .inr ⟨g,cap,C,D,A,Blk.other E x v oA,I⟩
theorem Own.setRow_lt {w:As} {B:Nat} {e:TypeId} {size:Nat} {a:Lt} {n c:Nat} {vs:AT} (h:Own w B e size a n c vs) (A:Nat) (cs:AS) (hx:A<B):Own (w.setRow A cs) B e size a n c vs:=by
 refine ⟨h.1,?_⟩;rcases h.2 with C|⟨g,cap,D,E,C,I,J⟩
 .exact .inl C
 .exact .inr ⟨g,cap,D,E,C,Blk.setRow_other I A cs oA,J⟩
theorem Own.apart {w w':As} {B B':Nat} {T t:TypeId} {size J:Nat} {a A:Lt} {n c m C:Nat} {vs I:AT} (h:Own w B t size A m C I) (N:Own w B' T J a n c vs) (L:T≠t) (O:w.grownBy w' (Value.slice a n c).ownBlock):Own w' B t size A m C I:=by
 refine ⟨h.1,?_⟩;rcases h.2 with D|⟨g,cap,M,S,D,E,U⟩
 .exact .inl D
 .refine .inr ⟨g,cap,M,S,D,?_,U⟩;refine (O.block g (VT.1 E).1 fun e=> ?_).trans E;rcases N.2 with ⟨k1,_⟩|⟨Y,V,X,k1,_,k3,_⟩
  .rw [k1] at e;cases e
  .rw [k1] at e;cases e;rw [E] at k3;simp only [Vu,YS] at k3;exact L k3.2.1.symm
theorem av.new (w:As) (cs:AS) (e:TypeId):av (w.alloc (.cells cs e)) (some ⟨w.heap.size,0,none⟩) cs.toList:=by
 refine av.mk fun i A=> ?_;rw [VN,Yl];simp at A;simp [A]
theorem av.new' (w:As) (cs:AS) (e:TypeId) (g:Nat) (A:w.heap.size=g):av (w.alloc (.cells cs e)) (some ⟨g,0,none⟩) cs.toList:=by subst A;exact av.new w cs e
theorem Own.setRow_apart {w:As} {B:Nat} {e:TypeId} {size:Nat} {a:Lt} {n c:Nat} {vs:AT} (h:Own w B e size a n c vs) {g:Nat} {cs:AS} {t:TypeId} (A:Blk w g cs t) (I:t≠e) (D:AS):Own (w.setRow g D) B e size a n c vs:=by
 refine ⟨h.1,?_⟩;rcases h.2 with C|⟨L,cap,J,M,C,E,N⟩
 .exact .inl C
 .refine .inr ⟨L,cap,J,M,C,Blk.setRow_other E g D ?_,N⟩;rintro rfl;unfold Blk at A;rw [E] at A;simp only [Vu,YS] at A;exact I A.2.1.symm
theorem Own.setCell_apart {w:As} {B:Nat} {e:TypeId} {size:Nat} {a:Lt} {n c:Nat} {vs:AT} (h:Own w B e size a n c vs) {g:Nat} {cs:AS} {t:TypeId} (A:Blk w g cs t) (C:t≠e) (i:Nat) (v:Value):Own (w.setCell ⟨g,i,none⟩ v) B e size a n c vs:=by
 rw [setCell_eq_setRow w g i cs t (0,0) v A];exact h.setRow_apart A C _
theorem Blk.ne {w:As} {b g:Nat} {cs C:AS} {t A:TypeId} (h:Blk w b cs t) (h':Blk w g C A) (D:t≠A):b≠g:=by
 rintro rfl;unfold Blk at h h';rw [h] at h';simp only [Vu,YS] at h';exact D h'.2.1
theorem Blk.rule {w:As} {g:Nat} {cs:AS} {t:TypeId} (h:Blk w g cs t) (i:Nat):w.cell? ⟨g,i,none⟩=cs[i]? :=cell_of_row w g i cs t (0,0) h
theorem Blk.cells {w:As} {g:Nat} {cs:AT} {t:TypeId} (h:Blk w g cs.toArray t):∀j (A:j<cs.length),w.cell? ⟨g,0+j,none⟩=some cs[j]:=fun j A=>by
 rw [VN,h.rule];simp [A]
def cU (cs:AS) (o:Nat) (new:AS):AS:=(cs.toList.take o++new.toList++cs.toList.drop (o+new.size)).toArray
theorem qg {P:Program} (w:As) (g o:Nat) (t ty:TypeId) (A cells:AS) (E:Blk w g A t) (D:(P.info? ty).map (·.size)=some cells.size)
  (I:o+cells.size<=A.size) (J:cells.toList.all (·.oneCell')=true):
  (storeVar ty ⟨g,o,none⟩ (.agg cells)).run P w= .ok () (w.setRow g (cU A o cells)):=by
 have:=run_storeCells_at (P:=P) g o t cells.toList 0 A w E (by simpa using I) (fun v L=>Xx.1 J v L);cases C:P.info? ty with
 |none=>simp [C] at D
 |some i=>
  have M:cells.size=i.size:=(by simp [C] at D;omega);simp [storeVar,sizeOf,typeInfo,C,Value.cells,M,this,cU]
theorem bq {P:Program} {o:Oper} {a:Act} {w:As} {K:Act->World->Prop} {Q:Exit->Act->World->Prop} (ty:TypeId) {n:Nat} (D:lY P ty n) (x y:Operand) (E:o.op= .store ty x y)
  {g C:Nat} {cells:AS} (hx:a.eval x= .pointer (some ⟨g,C,none⟩)) (I:a.eval y= .agg cells) {t:TypeId} {A:AS} (J:Blk w g A t) (L:cells.size=n) (N:C+n<=A.size) (M:cells.toList.all (·.oneCell')=true)
  (h:K (a.put o.dst undef) (w.setRow g (cU A C cells))):o.wp P a w K Q:=by
 unfold Oper.wp execOp;simp only [E,hx,I,Instr.storeAt,Instr.sureAddr,Wp,Xk,WE,qg w g C t ty A cells J (by rw [D.2,L]) oA M];exact h
theorem fh {P:Program} {ops:Array Oper} {rest:List Oper} {o:Oper} {a:Act} {w:As} {Q:Exit->Act->World->Prop} (D:o.guard=none) (ty:TypeId) {n:Nat} (I:lY P ty n) (x y:Operand) (J:o.op= .store ty x y)
  {g C:Nat} {cells:AS} (hx:a.eval x= .pointer (some ⟨g,C,none⟩)) (L:a.eval y= .agg cells) {t:TypeId} {A:AS} (M:Blk w g A t) (N:cells.size=n) (E:C+n<=A.size) (O:cells.toList.all (·.oneCell')=true)
  (h:wpList P ops Q rest (a.put o.dst undef) (w.setRow g (cU A C cells))):wpList P ops Q (o::rest) a w:=
 XJ D fun _ S=>bq ty I x y J hx L M N E O (S _ _ h)
theorem dC {P:Program} {ops:Array Oper} {rest:List Oper} {o:Oper} {a:Act} {w:As} {Q:Exit->Act->World->Prop} (C:o.guard=none) (ty:TypeId) {n:Nat} (E:lY P ty n) (x:Operand) (I:o.op= .load ty x)
  {g A:Nat} (hx:a.eval x= .pointer (some ⟨g,A,none⟩)) {t:TypeId} {cs:AS} (J:Blk w g cs t) {part:AT} (L:(cs.toList.drop A).take n=part) (M:part.length=n)
  (h:wpList P ops Q rest (a.put o.dst (.agg part.toArray)) w):wpList P ops Q (o::rest) a w:=
 dZ C ty E x I hx rfl (fun j N=>by
  subst L;rw [J.rule];have D:=N;rw [ltA,ldA] at D;simp [ZF,Yz]) M h
def dK (l:Le):ByteArray:=⟨l.toArray⟩
theorem nD (l:Le):(dK l).size=l.length:=by simp [dK,ByteArray.size]
theorem mO {P:Program} (w:As) {src A e:TypeId} (C:P.underlying src=some (.slice e)) (D:P.underlying e=some (.int .u8)) (E:P.underlying A=some .string)
  {a:Lt} {len c:Nat} {l:Le} (h:aj w a l) (I:l.length=len):
  (convert src A (.slice a len c)).run P w= .ok (.string (dK l)) w:=by
 subst I
 match a,h with
 |none,h=>
  have J:l=[]:=by
   cases l with
   |nil=>rfl
   |cons u r=>obtain ⟨b,o,e,_⟩:=h 0 skA;cases e
  subst J;rw [run_convert_bytes_string w src A e none _ c C D E];rfl
 |some ad,h=>
  refine run_convert_bytes_back w src A e ad c l C D E fun j L=> ?_;obtain ⟨b,o,e,M⟩:=h j (by simpa using L);obtain rfl:=Ww e;rw [WA,M];simp [bv,U8]
theorem aj.new (w:As) (cs:AS) (e:TypeId) (C:Nat×Nat) (l:Le) (hcs:cs=(l.map bv).toArray):aj (w.alloc (.cells cs e C)) (some ⟨w.heap.size,0,none⟩) l:=by
 subst hcs;refine av.mk fun i A=> ?_;rw [VN,Yl];simp at A;simp [A]
theorem sN {w:As} {a:Lt} {len cap:Nat} {zs:List Int}
  (h:(a=none/\len=0/\cap=0/\zs=[])\/
   ∃x,a=some x/\len<=cap/\cap<=maxLen/\zs.length=cap/\(∀i,i<zs.length->w.cell? (x.add i)=some (.int .u8 (zs.getD i 0)))/\∀n∈zs,(Lit.int .u8 n).wf=true):
  ∃l:Le,l.length=len/\aj w a l/\len<=cap/\cap<=maxLen:=by
 rcases h with ⟨rfl,rfl,rfl,rfl⟩|⟨x,rfl,I,J,S,C,L⟩
 .exact ⟨[],rfl,av.nil _ _,VU _,mxA⟩
 .refine ⟨(zs.take len).map (fun n=>UInt8.ofNat n.toNat),soA,?_,I,J⟩;intro i M;simp only [lmA,ltA] at M;obtain ⟨b,o,N⟩:=x;have D:=C i oA;have O:=C 0 oA;have E:N=none:=(by simpa [Addr.add] using World.cell?_spot O);subst E;rw [WA] at D;refine ⟨b,o,rfl,D.trans ?_⟩;have hin:zs[i]' oA∈zs:=VQ _;have A:=L _ hin;simp only [Lit.wf,IntKind.min,IntKind.max,IntKind.signed,IntKind.bits,Vh] at A;simp only [WL,ZF,bv,U8,List.getD,VJ (show i<zs.length by omega),Yt];congr 2;have:(UInt8.ofNat (zs[i]' oA).toNat).toNat=(zs[i]' oA).toNat:=by
   simp at A;rw [ZZ];omega
  rw [this];simp at A;omega
def zX (w:As) (a:Lt) (ls:List Le):Prop:=
 ∀r (h:r<ls.length),∃b o A C,a=some ⟨b,o,none⟩/\w.cell? ⟨b,o+r,none⟩=some (.slice A ls[r].length C)/\aj w A ls[r]/\ls[r].length<=C/\C<=maxLen
end
section
open Go.ChangeShapes Go.WideShapes Go.ChangeAt Go.RowKit
theorem jw {H:Type} {P:Program} {e:TypeId}:∀{l:List (DataW H)} {d:DataW H},d∈l->∀n∈d.weights P e,n∈DataW.weightsAll P e l
 |x::r,d,h,n,hn=>by
  simp only [DataW.weightsAll,Ve];rcases Vk.1 h with rfl|h
  .exact .inl hn
  .exact .inr (jw h n hn)
theorem yV {H:Type} {P:Program} {A:List TypeId} {ds:List (DataW H)} (h:(DataW.weightsEach P A ds).all (·<=reachBytes)=true) {j:Nat} {t:TypeId} {d:DataW H} (C:A[j]? =some t) (D:ds[j]? =some d):∀n∈d.weights P t,n<=reachBytes:=by
 intro n E;have:=Xx.1 h n (DataW.weights_mem_each C D n E);simpa using this
section
variable {H:Type} {enc:TypeId×Value->H} {P:Program} {W:As} {base:Nat} {held:Bool}
theorem Bj {t e:TypeId} {v:Value} {d:DataW H} {ps:List MemPlace} {r:Reach} {M:Nat} (I:P.underlying t=some (.slice e)) (N:P.underlying e=some (.int .u8)) (O:P.cellsOf e=1)
  (S:Value.okWide P W r M t v) (h:DataW.Trod enc P W base (fun _=>true) held t v d ps):
  ∃a len cap,∃l:Le,v= .slice a len cap/\l.length=len/\aj W a l/\len<=cap/\cap<=maxLen:=by
 obtain ⟨a,len,cap,rfl⟩:=okWide_slice I S;obtain ⟨Y,T⟩:=h;rcases open_ints I N O T with ⟨hcs,_⟩|⟨x,l,c,zs,hcs,_,U,V,X,_,J,L⟩
 .simp [Value.cells] at hcs;obtain ⟨rfl,rfl,rfl⟩:=hcs;obtain ⟨l,A,C,D,E⟩:=sN (w:=W) (a:=none) (len:=0) (cap:=0) (zs:=[]) (.inl ⟨rfl,rfl,rfl,rfl⟩);exact ⟨none,0,0,l,rfl,A,C,D,E⟩
 .simp [Value.cells] at hcs;obtain ⟨rfl,rfl,rfl⟩:=hcs;obtain ⟨l,A,C,D,E⟩:=sN (w:=W) (a:=some x) (len:=len) (cap:=cap) (zs:=zs) (.inr ⟨x,rfl,U,V,by simpa using X,J,L⟩);exact ⟨some x,len,cap,l,rfl,A,C,D,E⟩
end
section
variable {H:Type} {enc:TypeId×Value->H} {P:Program} {w:As}
def mG (enc:TypeId×Value->H) (P:Program) (w:As) (t:TypeId) (cs:AT):Prop:=
 ∃(n:Nat) (x:DataW H×List MemPlace),DataW.trod enc P w 0 (fun _=>true) true n t cs=some x/\∀m∈x.1.weights P t,m<=reachBytes
theorem lC {α β:Type} {f:α->Option β}:∀{l:List α} {r:List β},l.mapM f=some r->r.length=l.length/\∀(i:Nat) (h:i<l.length) (h':i<r.length),f l[i]=some r[i]
 | [],r,h=>by
  simp at h;subst h;exact ⟨rfl,fun i h=>by simp at h⟩
 |a::l,r,h=>by
  rw [List.mapM_cons] at h;cases A:f a with
  |none=>simp [A] at h
  |some b=>
   cases C:l.mapM f with
   |none=>simp [A,C] at h
   |some r'=>
    simp [A,C] at h;subst h;obtain ⟨E,I⟩:=lC C;refine ⟨by simp [E],fun i J D=> ?_⟩;cases i with
    |zero=>simpa using A
    |succ i=>simpa using I i (by simpa using J) (by simpa using D)
theorem pM {A:List TypeId} {ds:List (DataW H)} {i:Nat} (h:i<A.length) (h':i<ds.length):∀m∈ds[i].weights P A[i],m∈DataW.weightsEach P A ds:=
 DataW.weights_mem_each (VJ h) (VJ h')
theorem mG.field {t:TypeId} {fs:Array Field} {cs:AT} (h:mG enc P w t cs) (E:P.underlying t=some (.struct fs)) (j:Nat) (C:j<fs.toList.length):
  mG enc P w fs.toList[j].type ((cs.drop fs.toList[j].offset).take (P.cellsOf fs.toList[j].type)):=by
 obtain ⟨n,x,A,J⟩:=h;cases n with
 |zero=>simp [DataW.trod] at A
 |succ n=>
  unfold DataW.trod at A;rw [E] at A;simp only at A;split at A
  .obtain ⟨I,hx,rfl⟩:=WH.1 A;obtain ⟨L,M⟩:=lC hx;have D:j<I.length:=(by rw [L];exact C);refine ⟨n,I[j],M j C D,fun m N=>J m ?_⟩;simp only [DataW.weights,E];refine pM (i:=j) (by simpa using C) (by simpa using D) m ?_;simpa using N
  .cases A
theorem mG.elem {t e:TypeId} {k:Nat} {cs:AT} (h:mG enc P w t cs) (D:P.underlying t=some (.array k e)) (j:Nat) (E:j<k):
  mG enc P w e ((cs.drop (j*P.cellsOf e)).take (P.cellsOf e)):=by
 obtain ⟨n,x,A,L⟩:=h;cases n with
 |zero=>simp [DataW.trod] at A
 |succ n=>
  unfold DataW.trod at A;rw [D] at A;simp only at A;split at A
  .obtain ⟨C,hx,rfl⟩:=WH.1 A;obtain ⟨I,M⟩:=lC hx;rw [Yd] at I;have J:j<C.length:=(by rw [I];exact E);have:=M j (by simpa using E) J;rw [XL] at this;refine ⟨n,C[j],this,fun m N=>L m ?_⟩;simp only [DataW.weights,D];exact jw (d:=C[j].1) (VH.2 ⟨C[j],VQ _,rfl⟩) m N
  .cases A
theorem mG.int {t:TypeId} {k:IntKind} {c:Value} (h:mG enc P w t [c]) (C:P.underlying t=some (.int k)):∃n,c= .int k n/\(Lit.int k n).wf=true:=by
 obtain ⟨n,x,A,_⟩:=h;cases n with
 |zero=>simp [DataW.trod] at A
 |succ n=>
  unfold DataW.trod at A;rw [C] at A;split at A<;>simp_all
theorem mG.slice {t e:TypeId} {c:Value} (h:mG enc P w t [c]) (D:P.underlying t=some (.slice e)):
  ∃a len cap,c= .slice a len cap/\len<=cap/\cap<=maxLen/\(a=none->len=0)/\len*P.bytesOf e<=140737488351232/\
   ∀x,a=some x->∀i,i<len->∃cs,w.cells? 0 (x.add (i*P.cellsOf e)) (P.cellsOf e)=some cs/\mG enc P w e cs:=by
 obtain ⟨n,x,A,I⟩:=h;cases n with
 |zero=>simp [DataW.trod] at A
 |succ n=>
  unfold DataW.trod at A;rw [D] at A;split at A
  all_goals try (simp_all;done)
  .rename_i e1 e2;simp at e2;subst e2;exact ⟨none,0,0,rfl,VU _,mxA,fun _=>rfl,oA,fun x hx=>by cases hx⟩
  .rename_i e' ad len cap e1 e2;simp only [Vu,TypeDesc.slice.injEq] at e1;simp at e2;subst e1 e2;simp only at A;split at A
   .rename_i hcond;obtain ⟨C,hx,M⟩:=Option.bind_eq_some_iff.1 A;obtain ⟨rest,N,rfl⟩:=WH.1 M;obtain ⟨E,O⟩:=lC hx;rw [Yd] at E;refine ⟨some ad,len,cap,rfl,hcond.2.1,hcond.2.2,fun h=>by simp at h,?_,fun x hx i J=> ?_⟩
    .have:=I ((C.length+rest.length)*P.bytesOf e) (by simp [DataW.weights,D]);rw [E] at this;have V:len*P.bytesOf e<=(len+rest.length)*P.bytesOf e:=Ws _ oA;have N:reachBytes=140737488351232:=rfl;omega
    .obtain rfl:=Ww hx;have L:i<C.length:=(by rw [E];exact J);have:=O i (by simpa using J) L;rw [XL] at this;obtain ⟨cs,S,T⟩:=Option.bind_eq_some_iff.1 this;refine ⟨cs,S,n,C[i],T,fun m U=>I m ?_⟩;simp only [DataW.weights,D,Vk,Ve];exact .inr (.inl (jw (d:=C[i].1) (VH.2 ⟨C[i],VQ _,rfl⟩) m U))
   .cases A
theorem mt {α:Type} {g:α->AT} {sz:Nat} (A:∀y,(g y).length=sz):∀l:List α,(l.flatMap g).length=l.length*sz
 | []=>by simp
 |y::l=>by rw [Vn,laA,A,mt A l,VC,XV];omega
theorem qP {α:Type} {g:α->AT} {sz:Nat} (A:∀y,(g y).length=sz):∀(l:List α) (i r:Nat),r<sz->(h:i<l.length)->(l.flatMap g)[i*sz+r]? =(g l[i])[r]?
 |y::l,0,r,hr,_=>by rw [Vn,Zj,VN,Vo (by rw [A];exact hr)];rfl
 |y::l,i+1,r,hr,h=>by
  rw [Vn,Vw (by rw [A,XV];omega),A];have:(i+1)*sz+r-sz=i*sz+r:=(by rw [XV];omega);rw [this,qP A l i r hr (by simpa using h)];rfl
theorem pz {α:Type} [Inhabited α] {g:α->AT} {Ok:α->Prop} {sz:Nat} {e:TypeId} (J:∀y,(g y).length=sz) (I:0<sz) (X:P.cellsOf e=sz) (U:∀cs,mG enc P w e cs->cs.length=sz->∃y,cs=g y/\Ok y)
  {a:Lt} {len:Nat} (Z:a=none->len=0) (h:∀x,a=some x->∀i,i<len->∃cs,w.cells? 0 (x.add (i*P.cellsOf e)) (P.cellsOf e)=some cs/\mG enc P w e cs):
  ∃l:List α,l.length=len/\av w a (l.flatMap g)/\∀y∈l,Ok y:=by
 rw [X] at h;cases a with
 |none=>exact ⟨[],(Z rfl).symm,av.nil _ _,fun y D=>by simp at D⟩
 |some x=>
  have each:∀i,i<len->∃y,w.cells? 0 (x.add (i*sz)) sz=some (g y)/\Ok y:=by
   intro i A;obtain ⟨cs,C,d⟩:=h x rfl i A;have V:cs.length=sz:=by
    unfold World.cells? at C;rw [Vz (Vt _)] at C;have:=(lC C).1;simpa using this
   obtain ⟨y,rfl,D⟩:=U cs d V;exact ⟨y,C,D⟩
  obtain ⟨y,D⟩:=Go.Deep.choose_lt each;have N:∀i r,i<len->r<sz->w.cell? ((x.add (i*sz)).add r)=(g (y i))[r]? :=by
   intro i r A E;have C:=(D i A).1;unfold World.cells? at C;rw [Vz (Vt _)] at C;obtain ⟨hl,q⟩:=lC C;have O:r<(g (y i)).length:=(by rw [J];exact E);have:=q r (by simpa using E) O;rw [XL] at this;rw [this,VJ O]
  refine ⟨(List.range len).map y,skA,?_,fun z hz=> ?_⟩
  .intro j hj;rw [mt J,lmA,Yd] at hj;have A:j/sz<len:=(Nat.div_lt_iff_lt_mul I).2 hj;have E:j%sz<sz:=Nat.mod_lt _ I;have S:x.spot=none:=by
    have L:=N 0 0 (Xl (Vt _) A) I;have Y:0<(g (y 0)).length:=(by rw [J];exact I);rw [VJ Y] at L;simp [Addr.add] at L;exact World.cell?_spot L
   obtain ⟨b,o,sp⟩:=x;simp only at S;subst S;have T:=N (j/sz) (j%sz) A E;rw [WA,WA,WM,Wr,Nat.div_add_mod] at T;refine ⟨b,o,rfl,T.trans ?_⟩;have M:=qP J ((List.range len).map y) (j/sz) (j%sz) E (by simpa using A);rw [Wr,Nat.div_add_mod] at M;simp only [WL,XL] at M;rw [<-M,VJ]
  .obtain ⟨i,A,rfl⟩:=VH.1 hz;exact (D i (Wk.1 A)).2
theorem GG {t:TypeId} {v:Value} {d:DataW H} {ps:List MemPlace} {r:Reach} {D:Nat} (E:∀n∈d.weights P t,n<=reachBytes) (I:Value.okWide P w r D t v)
  (A:(∃e,P.underlying t=some (.slice e))) (h:DataW.Trod enc P w 0 (fun _=>true) true t v d ps):mG enc P w t [v]:=by
 obtain ⟨e,A⟩:=A;obtain ⟨a,len,cap,rfl⟩:=okWide_slice A I;obtain ⟨C,J⟩:=h;exact ⟨C,(d,ps),by simpa [Value.cells] using J,E⟩
end
end
section
open Go.ChangeShapes Go.WideShapes Go.ChangeAt Go.RowKit
def ff (n:Int):Prop:=(Lit.int .i64 n).wf=true
def wf8 (n:Int):Prop:=(Lit.int .i8 n).wf=true
structure Iv where
 id:Int
 card:Int
 harm:Int
 tired:Bool
deriving DecidableEq, Inhabited
def bi (n:Int):AT:=[.int .i64 n]
def fY (w:As) (a:Lt) (n c:Nat) (l:List Int):Prop:=av w a (l.map (Value.int .i64))/\l.length=n/\n<=c/\c<=maxLen/\n<=17592186044000/\∀x∈l,ff x
section
variable {H:Type} {enc:TypeId×Value->H} {w:As}
theorem Oe:Tryz.prog.cellsOf 3=1:=by kernel_rfl
theorem i8c:Tryz.prog.cellsOf 32=1:=by kernel_rfl
theorem Ka:Tryz.prog.cellsOf 34=1:=by kernel_rfl
theorem Gk:Tryz.prog.bytesOf 3=8:=by kernel_rfl
theorem Ek {v:Value} (h:mG enc prog w 34 [v]):∃a n c l,v= .slice a n c/\fY w a n c l:=by
 obtain ⟨a,len,cap,rfl,I,J,L,M,N⟩:=h.slice underlying34;obtain ⟨l,C,D,A⟩:=pz (g:=bi) (Ok:=ff) (fun _=>rfl) Nat.one_pos Oe (fun cs O E=>by
  match cs,E with
  | [c],_=>
   obtain ⟨n,rfl,A⟩:=O.int underlying3;exact ⟨n,rfl,A⟩) L N
 rw [Gk] at M;refine ⟨a,len,cap,l,rfl,?_,C,I,J,oA,A⟩;have e:l.flatMap bi=l.map (Value.int .i64):=by
  clear C D A
  induction l with
  |nil=>rfl
  |cons x l ih=>rw [Vn,ih];rfl
 rw [<-e];exact D
end
structure Sl where
 a:Lt
 n:Nat
 c:Nat
deriving Inhabited
def mC (w:As) (s:Sl) (l:List Int):Prop:=fY w s.a s.n s.c l
theorem fY.below {w w':As} {a:Lt} {n c:Nat} {l:List Int} (h:fY w a n c l) (A:Below w.heap.size w w'):fY w' a n c l:=⟨h.1.below A,h.2⟩
theorem mC.old {w w':As} {s:Sl} {l:List Int} (h:mC w s l) (A:Below w.heap.size w w'):mC w' s l:=fY.below h A
section
variable {H:Type} {enc:TypeId×Value->H} {w:As}
theorem lH {v:Value} (h:mG enc prog w 34 [v]):∃(s:Sl) (l:List Int),v= .slice s.a s.n s.c/\mC w s l:=by
 obtain ⟨a,n,c,l,e,h⟩:=Ek h;exact ⟨⟨a,n,c⟩,l,e,h⟩
end
structure ci where
 at_:Int
 by_:Int
deriving DecidableEq, Inhabited
def ci.cells (x:ci):AT:=[.int .i64 x.at_,.int .i64 x.by_]
def ci.wf (x:ci):Prop:=ff x.at_/\ff x.by_
def jW (w:As) (s:Sl) (l:List ci):Prop:=av w s.a (l.flatMap ci.cells)/\l.length=s.n/\s.n<=s.c/\s.c<=maxLen/\s.n<=8796093021952/\∀x∈l,x.wf
theorem jW.old {w w':As} {s:Sl} {l:List ci} (h:jW w s l) (A:Below w.heap.size w w'):jW w' s l:=⟨h.1.below A,h.2⟩
theorem Mm:Tryz.prog.cellsOf 36=1:=by kernel_rfl
theorem Qb:Tryz.prog.cellsOf 157=2:=by kernel_rfl
theorem CV:Tryz.prog.bytesOf 157=16:=by kernel_rfl
theorem yp {H:Type} {enc:TypeId×Value->H} {w:As} {v:Value} (h:mG enc prog w 36 [v]):∃(s:Sl) (l:List ci),v= .slice s.a s.n s.c/\jW w s l:=by
 obtain ⟨a,len,cap,rfl,D,E,I,J,L⟩:=h.slice underlying36;obtain ⟨l,M,N,O⟩:=pz (g:=ci.cells) (Ok:=ci.wf) (fun _=>rfl) oA Qb (fun cs A C=>by
  match cs,C with
  | [c0,c1],_=>
   have f0:=A.field underlying157 0 dcA;have f1:=A.field underlying157 1 dcA;simp [Oe] at f0 f1;obtain ⟨n0,rfl,w0⟩:=f0.int underlying3;obtain ⟨n1,rfl,w1⟩:=f1.int underlying3;exact ⟨⟨n0,n1⟩,rfl,w0,w1⟩) I L
 rw [CV] at J;exact ⟨⟨a,len,cap⟩,l,rfl,N,M,D,E,by show len<=_;omega,O⟩
def ax (w:As) (B:Nat) (s:Sl) (l:List Int):Prop:=Own w B 3 1 s.a s.n s.c (l.map (Value.int .i64))/\mC w s l
section
variable {w w':As} {B:Nat} {s:Sl} {l:List Int}
theorem ax.at (a:ax w B s l):mC w s l:=a.2
theorem ax.old (a:ax w B s l) (A:Below w.heap.size w w'):ax w' B s l:=⟨a.1.old A,a.2.old A⟩
theorem ax.set (a:ax w B s l) (x:Addr) (v:Value) (hx:x.block<B):ax (w.setCell x v) B s l:=⟨a.1.setCell_lt x v hx,(a.1.setCell_lt x v hx).row,a.2.2⟩
theorem ax.setRow (a:ax w B s l) (g:Nat) (cs:AS) (hx:g<B):ax (w.setRow g cs) B s l:=⟨a.1.setRow_lt g cs hx,(a.1.setRow_lt g cs hx).row,a.2.2⟩
theorem ax.apart (h:ax w B s l) {B':Nat} {T:TypeId} {E:Nat} {a:Lt} {n c:Nat} {vs:AT} (C:Own w B' T E a n c vs) (A:T≠3) (D:w.grownBy w' (Value.slice a n c).ownBlock):ax w' B s l:=⟨h.1.apart C A D,(h.1.apart C A D).row,h.2.2⟩
theorem ax.lower (a:ax w B s l) {B':Nat} (A:B'<=B):ax w B' s l:=⟨a.1.lower A,a.2⟩
theorem ax.mk' {w0:As} {C:Sl} (h:Own w B 3 1 s.a s.n s.c (l.map (Value.int .i64))) (A:mC w0 C l) (D:s.n=C.n):ax w B s l:=⟨h,h.row,by rw [D];exact A.2.1,h.le,h.cap_le,by rw [D];exact A.2.2.2.2.1,A.2.2.2.2.2⟩
theorem ax.nil (w:As) (B:Nat):ax w B ⟨none,0,0⟩ []:=⟨Own.nil _ _ _ _,av.nil _ _,rfl,VU _,by unfold maxLen;simp,skA,fun x hx=>by simp at hx⟩
end
def aQ (w:As) (B:Nat) (s:Sl) (l:List ci):Prop:=Own w B 157 2 s.a s.n s.c (l.flatMap ci.cells)/\jW w s l
section
variable {w w':As} {B:Nat} {s:Sl} {l:List ci}
theorem aQ.at (a:aQ w B s l):jW w s l:=a.2
theorem aQ.old (a:aQ w B s l) (A:Below w.heap.size w w'):aQ w' B s l:=⟨a.1.old A,a.2.old A⟩
theorem aQ.setRow (a:aQ w B s l) (g:Nat) (cs:AS) (hx:g<B):aQ (w.setRow g cs) B s l:=⟨a.1.setRow_lt g cs hx,(a.1.setRow_lt g cs hx).row,a.2.2⟩
theorem aQ.lower (a:aQ w B s l) {B':Nat} (A:B'<=B):aQ w B' s l:=⟨a.1.lower A,a.2⟩
theorem aQ.mk' {w0:As} {C:Sl} (h:Own w B 157 2 s.a s.n s.c (l.flatMap ci.cells)) (A:jW w0 C l) (D:s.n=C.n):aQ w B s l:=⟨h,h.row,by rw [D];exact A.2.1,h.le,h.cap_le,by rw [D];exact A.2.2.2.2.1,A.2.2.2.2.2⟩
theorem aQ.nil (w:As) (B:Nat):aQ w B ⟨none,0,0⟩ []:=⟨Own.nil _ _ _ _,av.nil _ _,rfl,VU _,by unfold maxLen;simp,skA,fun x hx=>by simp at hx⟩
end
structure bF where
 op:Int
 side:Int
 place:Int
 target:Int
 ids:List Int
 pairs:List ci
deriving DecidableEq, Inhabited
structure dy where
 ids:Sl
 pairs:Sl
deriving Inhabited
def aw (p:bF) (h:dy):AT:=[.int .i8 p.op,.int .i64 p.side,.int .i64 p.place,.int .i64 p.target,.slice h.ids.a h.ids.n h.ids.c,.slice h.pairs.a h.pairs.n h.pairs.c]
def bK (p:bF) (h:dy):Value:= .agg #[.int .i8 p.op,.int .i64 p.side,.int .i64 p.place,.int .i64 p.target,.slice h.ids.a h.ids.n h.ids.c,.slice h.pairs.a h.pairs.n h.pairs.c]
theorem dM (p:bF) (h:dy):bK p h= .agg (aw p h).toArray:=rfl
structure fb (w:As) (p:bF) (h:dy):Prop where
 op:wf8 p.op
 side:ff p.side
 place:ff p.place
 target:ff p.target
 ids:mC w h.ids p.ids
 pairs:jW w h.pairs p.pairs
theorem fb.old {w w':As} {p:bF} {h:dy} (a:fb w p h) (A:Below w.heap.size w w'):fb w' p h:=
 ⟨a.op,a.side,a.place,a.target,a.ids.old A,a.pairs.old A⟩
structure bu (w:As) (B:Nat) (p:bF) (h:dy):Prop where
 op:wf8 p.op
 side:ff p.side
 place:ff p.place
 target:ff p.target
 ids:ax w B h.ids p.ids
 pairs:aQ w B h.pairs p.pairs
theorem bu.at {w:As} {B:Nat} {p:bF} {h:dy} (a:bu w B p h):fb w p h:=⟨a.op,a.side,a.place,a.target,a.ids.at,a.pairs.at⟩
theorem bu.old {w w':As} {B:Nat} {p:bF} {h:dy} (a:bu w B p h) (A:Below w.heap.size w w'):bu w' B p h:=⟨a.op,a.side,a.place,a.target,a.ids.old A,a.pairs.old A⟩
theorem bu.setRow {w:As} {B:Nat} {p:bF} {h:dy} (a:bu w B p h) (g:Nat) (cs:AS) (hx:g<B):bu (w.setRow g cs) B p h:=⟨a.op,a.side,a.place,a.target,a.ids.setRow g cs hx,a.pairs.setRow g cs hx⟩
theorem bu.lower {w:As} {B:Nat} {p:bF} {h:dy} (a:bu w B p h) {B':Nat} (A:B'<=B):bu w B' p h:=⟨a.op,a.side,a.place,a.target,a.ids.lower A,a.pairs.lower A⟩
section
variable {H:Type} {enc:TypeId×Value->H} {w:As}
theorem yq {cs:AT} (C:cs.length=6) (A:mG enc prog w 38 cs):∃(p:bF) (h:dy),cs=aw p h/\fb w p h:=by
 have f0:=A.field underlying38 0 dcA;have f1:=A.field underlying38 1 dcA;have f2:=A.field underlying38 2 dcA;have f3:=A.field underlying38 3 dcA;have f4:=A.field underlying38 4 dcA;have f5:=A.field underlying38 5 dcA
 match cs,C with
 | [c0,c1,c2,c3,c4,c5],_=>
  simp [i8c,Oe,Ka,Mm] at f0 f1 f2 f3 f4 f5;obtain ⟨n0,rfl,w0⟩:=f0.int underlying32;obtain ⟨n1,rfl,w1⟩:=f1.int underlying3;obtain ⟨D,rfl,E⟩:=f2.int underlying3;obtain ⟨I,rfl,w3⟩:=f3.int underlying3;obtain ⟨J,L,rfl,M⟩:=lH f4;obtain ⟨N,O,rfl,S⟩:=yp f5;refine ⟨⟨n0,n1,D,I,L,O⟩,⟨J,N⟩,?_,⟨w0,w1,E,w3,M,S⟩⟩;rfl
end
end
section
abbrev bB:=ByteArray
structure dJ where
 name:bB
 b:Le
 sure:Nat
 deriving DecidableEq
abbrev ef:=List (bB×Int)
structure aN where
 fs:List dJ
 down:Bool
 armed:Bool
 left:Int
 plan:ef
def rL (plan:ef) (nm:bB):Int:=((plan.find? fun x=>x.1=nm).map fun x=>x.2).getD 0
def iS (plan:ef) (f:dJ):Nat:=(if plan.any (fun x=>x.1=f.name) then min (max (rL plan f.name) 0) ((f.b.length:Int)-f.sure) else 0).toNat
def iP (plan:ef) (f:dJ):dJ:={f with b:=f.b.take (f.sure+iS plan f),sure:=f.sure+iS plan f}
def lV (p:aN) (plan:ef):aN:={p with fs:=p.fs.map (iP plan),down:=true,armed:=false}
def dL (p:aN):aN×Int:=if p.armed=false then (p,0) else if 0<p.left then ({p with left:=p.left-1},0) else (lV p p.plan,5)
def fF (p:aN) (nm:bB):Option dJ:=p.fs.find? fun f=>f.name=nm
def BV (fs:List dJ) (nm:bB) (g:dJ->dJ):List dJ:=fs.map fun f=>if f.name=nm then g f else f
def kF (p:aN) (nm:bB) (g:dJ->dJ):aN:={p with fs:=BV p.fs nm g}
def dm (nm:bB):Bool:=decide (nm.size≠0)&&decide (nm.size<=40)
def fE:Nat:=1048576
def fd (p:aN) (nm:bB):aN×Int:=
 if p.down then (p,5) else if dm nm=false then (p,2) else if (fF p nm).isSome then (p,101) else if 64<=p.fs.length then (p,100)
 else ({p with fs:=p.fs++ [⟨nm,[],0⟩]},0)
def mp (p:aN) (nm:bB) (g:dJ->aN×Int):aN×Int:=
 if p.down then (p,5) else match fF p nm with
  |none=>(p,4)
  |some f=>g f
def bw (p:aN) (nm:bB) (b:Le):aN×Int:=
 mp p nm fun f=>if fE-f.b.length<b.length then (p,3) else dL (kF p nm fun f=>{f with b:=f.b++b})
def et (p:aN) (nm:bB):aN×Int:=
 mp p nm fun _=>if (dL p).2=0 then (kF (dL p).1 nm fun f=>{f with sure:=f.b.length},0) else dL p
def jF (p:aN) (nm:bB) (n:Int):aN×Int:=
 mp p nm fun f=>if n<0\/(f.b.length:Int)<n then (p,2) else (kF p nm fun f=>{f with b:=f.b.take n.toNat,sure:=n.toNat},0)
def bN (p:aN) (nm:bB):Le×Int:=if p.down then ([],5) else match fF p nm with
 |none=>([],4)
 |some f=>(f.b,0)
def dz (p:aN) (plan:ef):aN×Int:=if p.down then (p,5) else (lV p plan,0)
def lf (p:aN):aN×Int:=if p.down then ({p with down:=false},0) else (p,2)
def rO (p:aN) (n:Int) (plan:ef):aN×Int:=if p.down then (p,5) else if n<0 then (p,2) else ({p with armed:=true,left:=n,plan:=plan},0)
structure dY (p:aN):Prop where
 names:(p.fs.map (·.name)).Nodup
 named:∀f∈p.fs,dm f.name=true
 sure:∀f∈p.fs,f.sure<=f.b.length
 size:∀f∈p.fs,f.b.length<=fE
 count:p.fs.length<=64
 left:0<=p.left/\p.left<=9223372036854775807
theorem mY (plan:ef) (f:dJ) (h:f.sure<=f.b.length):f.sure+iS plan f<=f.b.length:=by
 unfold iS;split<;>omega
theorem lG (plan:ef) (f:dJ) (h:f.sure<=f.b.length):(iP plan f).b.length=f.sure+iS plan f:=by
 have:=mY plan f h;simp [iP];omega
theorem Dl {fs:List dJ} {g:dJ->dJ} (h:∀f∈fs,(g f).name=f.name):(fs.map g).map (·.name)=fs.map (·.name):=by
 rw [We];exact WQ h
theorem dY.map {p:aN} (h:dY p) (g:dJ->dJ) (C:∀f∈p.fs,(g f).name=f.name) (D:∀f∈p.fs,(g f).sure<=(g f).b.length) (E:∀f∈p.fs,(g f).b.length<=fE) (d a:Bool) (l:Int) (I:0<=l/\l<=9223372036854775807) (J:ef):dY ⟨p.fs.map g,d,a,l,J⟩:=by
 refine ⟨?_,?_,?_,?_,by simpa using h.count,I⟩
 .show ((p.fs.map g).map (·.name)).Nodup;rw [Dl C];exact h.names
 .intro f hf;obtain ⟨f0,A,rfl⟩:=VH.1 hf;rw [C f0 A];exact h.named f0 A
 .intro f hf;obtain ⟨f0,A,rfl⟩:=VH.1 hf;exact D f0 A
 .intro f hf;obtain ⟨f0,A,rfl⟩:=VH.1 hf;exact E f0 A
theorem dY.upd {p:aN} (h:dY p) (nm:bB) (g:dJ->dJ) (C:∀f∈p.fs,(g f).name=f.name) (D:∀f∈p.fs,f.name=nm->(g f).sure<=(g f).b.length) (E:∀f∈p.fs,f.name=nm->(g f).b.length<=fE):dY (kF p nm g):=by
 refine h.map (fun f=>if f.name=nm then g f else f) (fun f A=> ?_) (fun f A=> ?_) (fun f A=> ?_) _ _ _ h.left _
 all_goals
  (try dsimp only)
  by_cases e:f.name=nm
  .rw [Vz e]
   first|exact C f A|exact D f A e|exact E f A e
  .rw [VV e]
   try (first|rfl|exact h.sure f A|exact h.size f A)
theorem DT {fs:List dJ} (A:(fs.map (·.name)).Nodup) {f:dJ} (D:f∈fs):fs.find? (fun x=>x.name=f.name)=some f:=by
 induction fs with
 |nil=>cases D
 |cons x l ih=>
  simp only [WG,XR] at A;rcases Vk.1 D with rfl|C
  .simp
  .have hne:¬x.name=f.name:=fun e=>A.1 (e▸WY C);rw [XK,VO hne];exact ih A.2 C
theorem DV {p:aN} {nm:bB} {f:dJ} (h:fF p nm=some f):f∈p.fs/\f.name=nm:=by
 refine ⟨List.mem_of_find?_eq_some h,?_⟩;have:=List.find?_some h;simpa using this
end
section
open Go.RowKit
def be8 (n:Int):Le:=(List.range 8).map fun i=>⟨((BitVec.ofInt 64 n)>>>(56-8*i)).setWidth 8⟩
theorem pC (n:Int) (k:Nat):IntKind.u8.wrap (IntKind.u64.wrap n/2^k)=U8 ⟨((BitVec.ofInt 64 n)>>>k).setWidth 8⟩:=by
 have e:IntKind.u64.wrap n=U64 (BitVec.ofInt 64 n):=by
  simp only [U64,XU,IntKind.wrap,IntKind.bits,IntKind.signed];simp;omega
 rw [e,yB];have:=GP (BitVec.ofInt 64 n>>>k);rw [<-this];simp [IntKind.wrap,IntKind.bits,IntKind.signed]
theorem uH (n:Int) (i:Nat) (h:i<8):(be8 n).take (i+1)=(be8 n).take i++ [⟨((BitVec.ofInt 64 n)>>>(56-8*i)).setWidth 8⟩]:=by
 rw [Vj (by simp [be8];exact h)];simp [be8]
theorem an (n:Int):(be8 n).length=8:=by simp [be8]
def tr1 (b:Bool):Le:=[if b then 1 else 0]
def iy (l:List Int):Le:=be8 l.length++l.flatMap be8
def Md (u:Iv):Le:=be8 u.id++be8 u.card++be8 u.harm++tr1 u.tired
def encU (l:List Iv):Le:=be8 l.length++l.flatMap Md
def km (u:ci):Le:=be8 u.at_++be8 u.by_
def Ic (l:List ci):Le:=be8 l.length++l.flatMap km
def bZ (p:bF):Le:=be8 p.op++be8 p.side++be8 p.place++be8 p.target++iy p.ids++Ic p.pairs
abbrev Rd (α:Type):=Except Nat (α×Nat)
def thn {α β:Type} (x:Rd α) (f:α->Nat->Rd β):Rd β:=match x with
 | .error p=> .error p
 | .ok y=>f y.1 y.2
def rdB (l:Le):BitVec 64:=l.foldl (fun n y=>n<<<8|||y.toBitVec.setWidth 64) 0
def bO (bs:Le) (at_:Nat):Rd Int:=
 if bs.length<at_+8 then .error bs.length else .ok ((rdB ((bs.drop at_).take 8)).toInt,at_+8)
def ed (bs:Le) (at_:Nat):Rd Int:=match bO bs at_ with
 | .error p=> .error p
 | .ok (n,a)=>if n< -128\/127<n then .error at_ else .ok (n,a)
def bQ {α:Type} (one:Nat->Rd α):Nat->Nat->Rd (List α)
 |0,a=> .ok ([],a)
 |n+1,a=>match one a with
  | .error p=> .error p
  | .ok (x,b)=>match bQ one n b with
   | .error p=> .error p
   | .ok (l,c)=> .ok (x::l,c)
def iM {α:Type} (bs:Le) (each:Nat) (one:Nat->Rd α) (at_:Nat):Rd (List α):=match bO bs at_ with
 | .error p=> .error p
 | .ok (n,a)=>if n<0\/((bs.length:Int)-a).tdiv each<n then .error at_ else bQ one n.toNat a
def fJ (bs:Le) (at_:Nat):Rd ci:=
 thn (bO bs at_) fun i a=>
 thn (bO bs a) fun c a=>
 .ok (⟨i,c⟩,a)
def gS (bs:Le) (at_:Nat):Rd (List Int):=iM bs 8 (bO bs) at_
def fj (bs:Le) (at_:Nat):Rd (List ci):=iM bs 16 (fJ bs) at_
def eX (bs:Le) (at_:Nat):Rd bF:=
 thn (ed bs at_) fun op a=>
 thn (bO bs a) fun side a=>
 thn (bO bs a) fun place a=>
 thn (bO bs a) fun target a=>
 thn (gS bs a) fun ids a=>
 thn (fj bs a) fun pairs a=>
 .ok (⟨op,side,place,target,ids,pairs⟩,a)
def gC {α:Type} (one:Le->Nat->Rd α) (bs:Le):Except Nat α:=match one bs 0 with
 | .error p=> .error p
 | .ok (x,a)=>if a<bs.length then .error a else .ok x
section
variable {P:Program} {ops:Array Oper} {Q:Exit->Act->World->Prop} {md:Region.Mode} {R:World->World->Prop}
def eU (P:Program) (ops:Array Oper) (R:World->World->Prop) (o:Oper) (v:Value) (a:Act) (w:As):Prop:=
 (Region.wanted o (yielded ops a.tmps)=true/\∀w',R w w'->(execOp a.eval o).run P w'= .ok (.value v) w')\/
 (Region.wanted o (yielded ops a.tmps)=false/\v=undef)
theorem eU.wpOp {i:Nat} {o:Oper} {v:Value} {a:Act} {w:As} (C:ops[i]? =some o) (D:eU P ops R o v a w)
  {K:Act->World->Prop} (E:R w w) (h:K (a.put o.dst v) w):wpOp P ops Q i K a w:=by
 unfold Go.wpOp;simp only [C];rcases D with ⟨A,I⟩|⟨A,rfl⟩
 .simp only [A,YV,Oper.wp,I w E,Oper.upon];exact .inl h
 .simp only [A,YR,if_false];exact h
theorem eU.of_same {o:Oper} {v:Value} {a a':Act} {w:As} (A:eU P ops R o v a w) (C:execOp a'.eval o=execOp a.eval o)
  (D:Region.wanted o (yielded ops a'.tmps)=Region.wanted o (yielded ops a.tmps)):eU P ops R o v a' w:=by
 unfold eU at*;rw [C,D];exact A
theorem eU.later (A:∀x y z,R x y->R y z->R x z) {o:Oper} {v:Value} {a:Act} {w w':As} (C:eU P ops R o v a w) (D:R w w'):eU P ops R o v a w':=
 C.imp (fun ⟨E,I⟩=>⟨E,fun J h=>I J (A _ _ _ D h)⟩) id
theorem uP {j:Nat} {A C:Oper} {v:Value} (Z:ops[j]? =some C) (V:A.apart ops C=true)
  (X:∀cs b,A.op≠ .select cs b) (N:∀cs b,C.op≠ .select cs b)
  (O:∀c a w,Q (.panic c) (a.put A.dst v) w->Q (.panic c) a w) {K:Act->World->Prop} {a:Act} {w:As}
  (D:eU P ops R A v a w) (h:wpOp P ops Q j K (a.put A.dst v) w):
  wpOp P ops Q j (fun a' w'=>eU P ops R A v a' w/\K (a'.put A.dst v) w') a w:=by
 obtain ⟨L,I,S⟩:=Oper.apart_spec V;have E:∀(a:Act),eU P ops R A v a w->∀u,eU P ops R A v (a.put C.dst u) w:=fun a D u=>
  D.of_same (execOp_put A X a C.dst u S) (wanted_put A a C.dst u S)
 have T:∀d,eU P ops R A v {a with defers:=d::a.defers} w:=fun d=>D.of_same rfl rfl;unfold wpOp at*;simp only [Z] at*;rw [wanted_put C a A.dst v L] at h;split
 .rename_i hw;simp only [hw,YV] at h;rcases h with h|⟨M,U⟩
  case inr=>exact .inr ⟨by unfold Oper.asks at*;rw [execOp_put C N a A.dst v L] at M;exact M,U⟩
  refine .inl ?_;unfold Oper.wp at*;rw [execOp_put C N a A.dst v L] at h;generalize (execOp a.eval C).run P w=r at*;cases r with
  |ok n w'=>
   cases n<;>simp only [Oper.upon] at h⊢
   case value u=>exact ⟨E a D u,by rw [<-Yg a v u I];exact h⟩
   case skip=>exact ⟨E a D _,by rw [<-Yg a v undef I];exact h⟩
   case defer d=>
    refine ⟨E _ (T d) _,?_⟩;rw [<-Yg _ v undef I,<-Act.put_defers];exact h
   case enter f args=>
    refine Calls.mono h fun e Y J=> ?_;cases e with
    |returned u=>exact ⟨E a D u,by rw [<-Yg a v u I];exact J⟩
    |panicked c=>exact O _ _ _ J
    |outgrown=>exact J
   case row row args=>exact Rows.mono h fun u Y J=>⟨E a D u,by rw [<-Yg a v u I];exact J⟩
  |halt x w'=>
   cases x<;>simp only [Oper.upon] at h⊢
   case panic u=>exact O _ _ _ h
 .rename_i hw;simp only [hw] at h;exact ⟨E a D _,by rw [<-Yg a v undef I];exact h⟩
def uS (P:Program) (md:Region.Mode) (ops:Array Oper) (Q:Exit->Act->World->Prop) (R:World->World->Prop):Nat->Array Bool->Act->World->Prop
 |0,listed,a,w=>Region.ready md ops listed=[]/\Q .normal a w
 |fuel+1,listed,a,w=>
  (Region.ready md ops listed=[]->Q .normal a w)/\
  ∀i∈Region.ready md ops listed,wpOp P ops Q i (fun a' w'=>R w w'/\uS P md ops Q R fuel (listed.setIfInBounds i true) a' w') a w
theorem rP:∀(A:Nat) (C:Array Bool) (a:Act) (w:As),uS P md ops Q R A C a w->wpAny P md ops Q A C a w
 |0,_,_,_,h=>h
 |A+1,_,_,_,h=>⟨h.1,fun i D=>wpOp_mono (fun a' w' h'=>rP A _ a' w' h'.2) (h.2 i D)⟩
theorem uR (N:∀w,R w w) (ht:∀x y z,R x y->R y z->R x z) {i:Nat} {D:Oper} {v:Value} (V:ops[i]? =some D) (Y:∀(j:Nat) (o:Oper) cs b,ops[j]? =some o->o.op≠ .select cs b)
  (hQ:∀c a w,Q (.panic c) (a.put D.dst v) w->Q (.panic c) a w):
  ∀(L:Nat) (A:Array Bool) (a:Act) (w:As),
   (∀j E,ops[j]? =some E->j≠i->A.getD j true=false->(∀e∈E.after,Region.binds md e=true->e.on≠i)->D.apart ops E=true)->
   i∈Region.ready md ops A->eU P ops R D v a w->
   uS P md ops Q R L (A.setIfInBounds i true) (a.put D.dst v) w->uS P md ops Q R (L+1) A a w:=by
 intro L
 induction L with
 |zero=>
  intro A a w _ I O H;refine ⟨fun h=>(by rw [h] at I;cases I),fun j S=> ?_⟩;by_cases C:j=i
  .subst C;exact O.wpOp V (N w) ⟨N w,H⟩
  .have:=ZL S C;rw [H.1] at this;cases this
 |succ L ih=>
  intro A a w X I O H;refine ⟨fun h=>(by rw [h] at I;cases I),fun j S=> ?_⟩;by_cases C:j=i
  .subst C;exact O.wpOp V (N w) ⟨N w,H⟩
  .have J:=H.2 j (ZL S C);obtain ⟨Z,E,U,A1⟩:=ZQ.1 S;have A2:∀e∈E.after,Region.binds md e=true->e.on≠i:=fun e he hb A3=>by
    have J:=A1 e he hb;have r:=(ZQ.1 I).1;rw [A3] at J;rcases YX i A.size with h'|h'
    .simp [h'] at r J;rw [r] at J;cases J
    .simp [Wz h'] at J
   have h2:=uP U (X j E U C Z A2) (fun cs b=>Y i D cs b V) (fun cs b=>Y j E cs b U) hQ O J;have A0:∀k M,ops[k]? =some M->k≠i->(A.setIfInBounds j true).getD k true=false->
     (∀e∈M.after,Region.binds md e=true->e.on≠i)->D.apart ops M=true:=fun k M hk A4 d A5=>by
    refine X k M hk A4 ?_ A5;by_cases q:j=k
    .subst q;exact Z
    .rw [getD_set_ne true q] at d;exact d
   refine wpOp_mono (fun a' w' T=>⟨T.2.1,ih (A.setIfInBounds j true) a' w' A0 (ZL I (Vl C)) (T.1.later ht T.2.1) ?_⟩) h2;rw [Array.setIfInBounds_comm _ _ C];exact T.2.2
def gW:Op->Bool
 | .alloc _| .box .. | .buildSlice .. | .insert .. | .store .. | .makeMap .. | .makeChan .. | .makeSlice .. | .makeFunc .. | .mapUpdate .. | .mapEntry .. | .entryStore .. | .range .. | .next .. | .panic _| .send .. | .recv .. | .select .. | .go _| .defer _=>true
 | .call {callee:= .builtin .len,..}=>false
 | .call {callee:= .builtin .cap,..}=>false
 | .call {callee:= .builtin .min,..}=>false
 | .call {callee:= .builtin .max,..}=>false
 | .call _=>true
 |_=>false
def Mq (md:Region.Mode) (ops:Array Oper):List Nat->Array Bool->Bool
 | [],listed=>(Region.ready md ops listed).isEmpty
 |i::r,listed=>(if ((ops[i]?).map fun o=>gW o.op).getD true then Region.ready md ops listed==[i] else (Region.ready md ops listed).contains i&&Region.free md ops listed i)&&Mq md ops r (listed.setIfInBounds i true)
def MC (ops:Array Oper) (order:List Nat):Bool:=Region.noSelect ops&&order.length==ops.size&&Mq .any ops order (Array.replicate ops.size false)
def dw (P:Program) (ops:Array Oper) (Q:Exit->Act->World->Prop) (R:World->World->Prop):List Nat->Act->World->Prop
 | [],a,w=>Q .normal a w
 |i::rest,a,w=>
  match ops[i]? with
  |none=>False
  |some o=>
   if Region.wanted o (yielded ops a.tmps) then
    if gW o.op then o.wp P a w (fun a' w'=>R w w'/\dw P ops Q R rest a' w') Q
    else ∃v,(∀w',R w w'->(execOp a.eval o).run P w'= .ok (.value v) w')/\dw P ops Q R rest (a.put o.dst v) w
   else dw P ops Q R rest (a.put o.dst undef) w
theorem lv (E:∀w,R w w) (L:∀x y z,R x y->R y z->R x z) (M:Region.noSelect ops=true)
  (N:∀c a d v w,Q (.panic c) (a.put d v) w->Q (.panic c) a w):∀(l:List Nat) (D:Array Bool) (a:Act) (w:As),
  Mq md ops l D=true->dw P ops Q R l a w->uS P md ops Q R l.length D a w
 | [],_,_,_,hB,h=>⟨by simpa [Mq] using hB,h⟩
 |k::l,D,a,w,hB,h=>by
  cases C:ops[k]? with
  |none=>simp only [dw,C] at h
  |some o=>
   simp only [Mq,C,Xt,Yt,Vh] at hB;obtain ⟨I,O⟩:=hB;simp only [VC];simp only [dw,C] at h;by_cases J:gW o.op=true
   .rw [Vz J] at I;have S:Region.ready md ops D=[k]:=(by simpa using I);refine ⟨fun h=>(by rw [h] at S;cases S),fun i U=> ?_⟩;rw [S] at U;obtain rfl:=VS.1 U;unfold wpOp;simp only [C];split
    .rename_i A;rw [Vz A,Vz J] at h;exact .inl (Oper.wp_mono (fun a' w' V=>⟨V.1,lv E L M N l _ a' w' O V.2⟩) h)
    .rename_i A;rw [VV A] at h;exact ⟨E w,lv E L M N l _ _ w O h⟩
   .rw [VV J] at I;simp only [Vh] at I;obtain ⟨X,Y⟩:=I;have T:∃v,eU P ops R o v a w/\dw P ops Q R l (a.put o.dst v) w:=by
     by_cases A:Region.wanted o (yielded ops a.tmps)=true
     .rw [Vz A,VV J] at h;obtain ⟨v,Z,j⟩:=h;exact ⟨v,.inl ⟨A,Z⟩,j⟩
     .rw [VV A] at h;exact ⟨undef,.inr ⟨by simpa using A,rfl⟩,h⟩
    obtain ⟨v,T,q⟩:=T;exact uR E L C (Region.noSelect_spec M) (fun c a w=>N c a _ _ w) l.length D a w (Region.free_spec C Y) (by simpa using X) T
     (lv E L M N l _ _ w O q)
theorem lM {id:Nat} {a:Act} {w:As} (A:List Nat) (D:∀w,R w w) (E:∀x y z,R x y->R y z->R x z) (I:P.follows .mixedOrders=true) (C:MC ops A=true)
  (J:∀c a d v w,Q (.panic c) (a.put d v) w->Q (.panic c) a w)
  (h:dw P ops Q R A a w.drew):(Code.region id ops true).wp P Q a w:=by
 simp only [MC,Vh] at C;refine wp_region_any I (rP _ _ _ _ (R:=R) ?_);have:=lv (R:=R) (md:= .any) D E C.1.1 J A (Array.replicate ops.size false) a w.drew C.2 h;rwa [show A.length=ops.size by simpa using C.1.2] at this
end
def pp (o:Oper):Bool:=match o.op with
 | .store .. =>true
 | .mapUpdate .. =>true
 |_=>false
def wY (m:Bool) (o:Oper):Bool:=m&&pp o
def ol (m:Bool) (ops:Array Oper) (i:Nat):Bool:=((ops[i]?).map (wY m)).getD false
def GB (md:Region.Mode) (ops:Array Oper):Nat->Nat->Nat->Bool
 |0,_,_=>false
 |f+1,j,i=>match ops[j]? with
  |none=>false
  |some o=>o.after.any fun e=>Region.binds md e&&(e.on==i||GB md ops f e.on i)
def yJ (m:Bool) (md:Region.Mode) (ops:Array Oper) (listed:Array Bool) (i:Nat):Bool:=
 (List.range ops.size).all fun j=>j==i||listed.getD j true||(match ops[j]? with
  |none=>true
  |some o=> !wY m o||GB md ops ops.size j i)
def lr (md:Region.Mode) (ops:Array Oper) (listed:Array Bool):Prop:=
 ∀(k:Nat) (o:Oper),ops[k]? =some o->listed.getD k false=true->∀e∈o.after,Region.binds md e=true->listed.getD e.on false=true
theorem lr.none (md:Region.Mode) (ops:Array Oper) (n:Nat):lr md ops (Array.replicate n false):=by
 intro k o _ h;by_cases A:k<n<;>simp [A] at h
theorem lr.set {md:Region.Mode} {ops:Array Oper} {A:Array Bool} (h:lr md ops A) {k:Nat} (N:k∈Region.ready md ops A):lr md ops (A.setIfInBounds k true):=by
 intro m o C E e I J;obtain ⟨_,O,M,L⟩:=ZQ.1 N;refine getD_set_true ?_;by_cases D:k=m
 .subst D;rw [M] at C;cases C;exact L e I J
 .rw [getD_set_ne false D] at E;exact h m o C E e I J
theorem qV {md:Region.Mode} {ops:Array Oper} {A:Array Bool} (C:lr md ops A) {i:Nat}:∀(f j:Nat) (o:Oper),ops[j]? =some o->(∀e∈o.after,Region.binds md e=true->A.getD e.on false=true)->GB md ops f j i=true->A.getD i false=true
 |0,_,_,_,_,h=>by simp [GB] at h
 |f+1,j,o,ho,hall,h=>by
  simp only [GB,ho] at h;obtain ⟨e,D,h⟩:=Array.any_eq_true'.1 h;simp only [Vh,Bool.or_eq_true,XY] at h;obtain ⟨E,rfl|h⟩:=h
  .exact hall e D E
  .cases hq:ops[e.on]? with
   |none=>
    cases f with
    |zero=>simp [GB] at h
    |succ f=>simp [GB,hq] at h
   |some o'=>exact qV C f e.on o' hq (C e.on o' hq (hall e D E)) h
def rQ (m:Bool) (P:Program) (md:Region.Mode) (ops:Array Oper) (Q:Exit->Act->World->Prop) (R:World->World->Prop):Nat->Array Bool->Act->World->Prop
 |0,listed,a,w=>Region.ready md ops listed=[]/\Q .normal a w
 |fuel+1,listed,a,w=>
  (Region.ready md ops listed=[]->Q .normal a w)/\
  ∀i∈Region.ready md ops listed,wpOp P ops Q i (fun a' w'=>(ol m ops i=true\/R w w')/\rQ m P md ops Q R fuel (listed.setIfInBounds i true) a' w') a w
section
variable {m:Bool} {P:Program} {ops:Array Oper} {Q:Exit->Act->World->Prop} {md:Region.Mode} {R:World->World->Prop}
theorem ny:∀(A:Nat) (C:Array Bool) (a:Act) (w:As),rQ m P md ops Q R A C a w->wpAny P md ops Q A C a w
 |0,_,_,_,h=>h
 |A+1,_,_,_,h=>⟨h.1,fun i D=>wpOp_mono (fun a' w' h'=>ny A _ a' w' h'.2) (h.2 i D)⟩
theorem tf {C:Array Bool} {i:Nat} (h:yJ m md ops C i=true):∀j A,ops[j]? =some A->wY m A=true->j≠i->C.getD j true=false->GB md ops ops.size j i=true:=by
 intro j A D J E L;have I:j<ops.size:=(VT.1 D).1;have:=Xx.1 h j (Wk.2 I);simp only [D,J,L,Bool.not_true,Bool.false_or,Bool.or_false,Bool.or_eq_true,XY] at this;rcases this with h|h
 .exact absurd h E
 .exact h
theorem uQ (T:∀w,R w w) (ht:∀x y z,R x y->R y z->R x z) {i:Nat} {M:Oper} {v:Value} (Z:ops[i]? =some M) (A2:∀(j:Nat) (o:Oper) cs b,ops[j]? =some o->o.op≠ .select cs b)
  (hQ:∀c a w,Q (.panic c) (a.put M.dst v) w->Q (.panic c) a w):
  ∀(N:Nat) (A:Array Bool) (a:Act) (w:As),
   (∀j C,ops[j]? =some C->j≠i->A.getD j true=false->(∀e∈C.after,Region.binds md e=true->e.on≠i)->M.apart ops C=true)->
   lr md ops A->(∀j C,ops[j]? =some C->wY m C=true->j≠i->A.getD j true=false->GB md ops ops.size j i=true)->
   i∈Region.ready md ops A->eU P ops R M v a w->
   rQ m P md ops Q R N (A.setIfInBounds i true) (a.put M.dst v) w->rQ m P md ops Q R (N+1) A a w:=by
 intro N
 induction N with
 |zero=>
  intro A a w _ _ _ I U H;refine ⟨fun h=>(by rw [h] at I;cases I),fun j O=> ?_⟩;by_cases E:j=i
  .subst E;exact U.wpOp Z (T w) ⟨.inr (T w),H⟩
  .have:=ZL O E;rw [H.1] at this;cases this
 |succ N ih=>
  intro A a w A0 A5 A1 I U H;refine ⟨fun h=>(by rw [h] at I;cases I),fun j O=> ?_⟩;by_cases E:j=i
  .subst E;exact U.wpOp Z (T w) ⟨.inr (T w),H⟩
  .have D:=H.2 j (ZL O E);obtain ⟨X,C,J,A3⟩:=ZQ.1 O;have A7:∀e∈C.after,Region.binds md e=true->e.on≠i:=fun e he hb A8=>by
    have D:=A3 e he hb;have S:=(ZQ.1 I).1;rw [A8] at D;rcases YX i A.size with h'|h'
    .simp [h'] at S D;rw [S] at D;cases D
    .simp [Wz h'] at D
   have A9:ol m ops j≠true:=fun d=>by
    have BY:wY m C=true:=(by simpa [ol,J] using d);have D:=qV A5 _ j C J A3 (A1 j C J BY E X);have S:=(ZQ.1 I).1;rcases YX i A.size with h'|h'
    .simp [h'] at S D;rw [S] at D;cases D
    .simp [Wz h'] at D
   have h2:=uP J (A0 j C J E X A7) (fun cs b=>A2 i M cs b Z) (fun cs b=>A2 j C cs b J) hQ U D;have A4:∀k,(A.setIfInBounds j true).getD k true=false->A.getD k true=false:=fun k L=>by
    by_cases A6:j=k
    .subst A6;exact X
    .rw [getD_set_ne true A6] at L;exact L
   refine wpOp_mono (fun a' w' V=>⟨V.2.1,?_⟩) h2;have hR:R w w':=V.2.1.resolve_left A9;refine ih (A.setIfInBounds j true) a' w' (fun k q r Y L B0=>A0 k q r Y (A4 k L) B0) (A5.set O) (fun k q r d Y L=>A1 k q r d Y (A4 k L)) (ZL I (Vl E)) (V.1.later ht hR) ?_;rw [Array.setIfInBounds_comm _ _ E];exact V.2.2
end
inductive rz where
 |done
 |step (i:Nat) (p:rz)
 |fork (l:List (Nat×rz))
mutual
def Jv (m:Bool) (md:Region.Mode) (ops:Array Oper):rz->Array Bool->Bool
 | .done,listed=>(Region.ready md ops listed).isEmpty
 | .step i p,listed=>(if ((ops[i]?).map fun o=>gW o.op).getD true then Region.ready md ops listed==[i] else (Region.ready md ops listed).contains i&&Region.free md ops listed i&&yJ m md ops listed i)&&Jv m md ops p (listed.setIfInBounds i true)
 | .fork l,listed=> !l.isEmpty&&(Region.ready md ops listed==l.map Prod.fst)&&Od m md ops l listed
def Od (m:Bool) (md:Region.Mode) (ops:Array Oper):List (Nat×rz)->Array Bool->Bool
 | [],_=>true
 |(i,p)::l,listed=>(ops[i]?).isSome&&Jv m md ops p (listed.setIfInBounds i true)&&Od m md ops l listed
end
mutual
def tB:rz->Nat->Bool
 | .done,n=>n==0
 | .step _ p,n=>match n with
  |0=>false
  |n+1=>tB p n
 | .fork l,n=>match n with
  |0=>false
  |n+1=>Fk l n
def Fk:List (Nat×rz)->Nat->Bool
 | [],_=>true
 |(_,p)::l,n=>tB p n&&Fk l n
end
def JR (m:Bool) (ops:Array Oper) (p:rz):Bool:=Region.noSelect ops&&tB p ops.size&&Jv m .any ops p (Array.replicate ops.size false)
mutual
def dk (m:Bool) (P:Program) (ops:Array Oper) (Q:Exit->Act->World->Prop) (R:World->World->Prop):rz->Act->World->Prop
 | .done,a,w=>Q .normal a w
 | .step i p,a,w=>
  match ops[i]? with
  |none=>False
  |some o=>
   if Region.wanted o (yielded ops a.tmps) then
    if gW o.op then o.wp P a w (fun a' w'=>(ol m ops i=true\/R w w')/\dk m P ops Q R p a' w') Q
    else ∃v,(∀w',R w w'->(execOp a.eval o).run P w'= .ok (.value v) w')/\dk m P ops Q R p (a.put o.dst v) w
   else dk m P ops Q R p (a.put o.dst undef) w
 | .fork l,a,w=>jH m P ops Q R l a w
def jH (m:Bool) (P:Program) (ops:Array Oper) (Q:Exit->Act->World->Prop) (R:World->World->Prop):List (Nat×rz)->Act->World->Prop
 | [],_,_=>True
 |(i,p)::l,a,w=>
  (match ops[i]? with
  |none=>False
  |some o=>if Region.wanted o (yielded ops a.tmps) then o.wp P a w (fun a' w'=>(ol m ops i=true\/R w w')/\dk m P ops Q R p a' w') Q else dk m P ops Q R p (a.put o.dst undef) w)/\jH m P ops Q R l a w
end
section
variable {m:Bool} {P:Program} {ops:Array Oper} {Q:Exit->Act->World->Prop} {md:Region.Mode} {R:World->World->Prop}
mutual
theorem gh (J:∀w,R w w) (N:∀x y z,R x y->R y z->R x z) (O:Region.noSelect ops=true)
  (S:∀c a d v w,Q (.panic c) (a.put d v) w->Q (.panic c) a w):∀(p:rz) (n:Nat) (A:Array Bool) (a:Act) (w:As),
  tB p n=true->lr md ops A->Jv m md ops p A=true->dk m P ops Q R p a w->rQ m P md ops Q R n A a w
 | .done,0,A,a,w,_,_,hB,h=>⟨by simpa [Jv] using hB,by simpa [dk] using h⟩
 | .done,n+1,_,_,_,hz,_,_,_=>by simp [tB] at hz
 | .step _ _,0,_,_,_,hz,_,_,_=>by simp [tB] at hz
 | .fork _,0,_,_,_,hz,_,_,_=>by simp [tB] at hz
 | .step k p,n+1,A,a,w,hz,hcl,hB,h=>by
  simp only [tB] at hz;cases L:ops[k]? with
  |none=>simp only [dk,L] at h
  |some o=>
   simp only [Jv,L,Xt,Yt,Vh] at hB;obtain ⟨E,M⟩:=hB;simp only [dk,L] at h;by_cases T:gW o.op=true
   .rw [Vz T] at E;have C:Region.ready md ops A=[k]:=(by simpa using E);refine ⟨fun h=>(by rw [h] at C;cases C),fun i I=> ?_⟩;rw [C] at I;obtain rfl:=VS.1 I;unfold wpOp;simp only [L];split
    .rename_i D;rw [Vz D,Vz T] at h;exact .inl (Oper.wp_mono (fun a' w' X=>⟨X.1,gh J N O S p n _ a' w' hz (hcl.set (by rw [C];simp)) M X.2⟩) h)
    .rename_i D;rw [VV D] at h;exact ⟨.inr (J w),gh J N O S p n _ _ w hz (hcl.set (by rw [C];simp)) M h⟩
   .rw [VV T] at E;simp only [Vh] at E;obtain ⟨⟨V,q⟩,Z⟩:=E;have U:∃v,eU P ops R o v a w/\dk m P ops Q R p (a.put o.dst v) w:=by
     by_cases D:Region.wanted o (yielded ops a.tmps)=true
     .rw [Vz D,VV T] at h;obtain ⟨v,r,h2⟩:=h;exact ⟨v,.inl ⟨D,r⟩,h2⟩
     .rw [VV D] at h;exact ⟨undef,.inr ⟨by simpa using D,rfl⟩,h⟩
    obtain ⟨v,U,hK⟩:=U;exact uQ J N L (Region.noSelect_spec O) (fun c a w=>S c a _ _ w) n A a w (Region.free_spec L q) hcl (tf Z) (by simpa using V) U
     (gh J N O S p n _ _ w hz (hcl.set (by simpa using V)) M hK)
 | .fork l,n+1,A,a,w,hz,hcl,hB,h=>by
  simp only [tB] at hz;simp only [Jv,Vh] at hB;simp only [dk] at h;obtain ⟨⟨j,E⟩,M⟩:=hB;have C:Region.ready md ops A=l.map Prod.fst:=(by simpa using E);have Y:=pL J N O S l n A a w hz hcl (fun i I=>by rw [C];exact I) M h;refine ⟨fun h=> ?_,fun i I=> ?_⟩
  .rw [h] at C;cases l with
   |nil=>simp at j
   |cons x l=>simp at C
  .rw [C] at I;exact Y i I
theorem pL (D:∀w,R w w) (E:∀x y z,R x y->R y z->R x z) (I:Region.noSelect ops=true)
  (J:∀c a d v w,Q (.panic c) (a.put d v) w->Q (.panic c) a w):∀(l:List (Nat×rz)) (n:Nat) (C:Array Bool) (a:Act) (w:As),
  Fk l n=true->lr md ops C->(∀i∈l.map Prod.fst,i∈Region.ready md ops C)->Od m md ops l C=true->jH m P ops Q R l a w->
   ∀i∈l.map Prod.fst,wpOp P ops Q i (fun a' w'=>(ol m ops i=true\/R w w')/\rQ m P md ops Q R n (C.setIfInBounds i true) a' w') a w
 | [],_,_,_,_,_,_,_,_,_=>fun i A=>by simp at A
 |(k,p)::l,n,C,a,w,hz,hcl,hrd,hB,h=>fun i A=>by
  simp only [Fk,Vh] at hz;simp only [Od,Vh] at hB;simp only [jH] at h;rcases Vk.1 A with L|A
  .have L:i=k:=L;subst L;cases M:ops[i]? with
   |none=>simp [M] at hB
   |some o=>
    have h:=h.1;simp only [M] at h;unfold wpOp;simp only [M];split
    .rename_i hw;rw [Vz hw] at h;exact .inl (Oper.wp_mono (fun a' w' N=>⟨N.1,gh D E I J p n _ a' w' hz.1 (hcl.set (hrd _ skA)) hB.1.2 N.2⟩) h)
    .rename_i hw;rw [VV hw] at h;exact ⟨.inr (D w),gh D E I J p n _ _ w hz.1 (hcl.set (hrd _ skA)) hB.1.2 h⟩
  .exact pL D E I J l n C a w hz.2 hcl (fun i A=>hrd i (by simp at A⊢;exact .inr A)) hB.2 h.2 i A
end
end
def Old (w w':As):Prop:=Below w.heap.size w w'
theorem Old.refl (w:As):Old w w:=VW _ _
theorem Old.trans (x y z:As) (A:Old x y) (C:Old y z):Old x z:=aa A C
section
variable {P:Program} {Q:Exit->Act->World->Prop} {a:Act} {w:As}
theorem aB (A:List Nat) {id:Nat} {l:List Oper} (C:P.follows .mixedOrders=true) (D:MC l.toArray A=true)
  (E:∀c a d v w,Q (.panic c) (a.put d v) w->Q (.panic c) a w)
  (h:dw P l.toArray Q Old A a w.drew):(Code.region id l.toArray true).wp P Q a w:=
 lM (R:=Old) A Old.refl Old.trans C D E h
def iw:List Oper->Nat->Option Oper
 | [],_=>none
 |o::_,0=>some o
 |_::l,n+1=>iw l n
theorem fD:∀(l:List Oper) (i:Nat),iw l i=l.toArray[i]?
 | [],_=>by simp [iw]
 |o::l,0=>by simp [iw]
 |o::l,n+1=>by
  have:=fD l n;simp only [List.getElem?_toArray] at this;simp [iw,this]
variable {l:List Oper} {rest:List Nat} {i:Nat} {o:Oper}
theorem cR {v:Value} (A:iw l i=some o) (C:gW o.op=false) (D:Region.wanted o (yielded l.toArray a.tmps)=true)
  (E:∀w',Old w w'->(execOp a.eval o).run P w'= .ok (.value v) w') (h:dw P l.toArray Q Old rest (a.put o.dst v) w):dw P l.toArray Q Old (i::rest) a w:=by
 rw [fD] at A;simp only [dw,A,D,C,YV];exact ⟨v,E,h⟩
theorem zD (A:iw l i=some o) (C:Region.wanted o (yielded l.toArray a.tmps)=false) (h:dw P l.toArray Q Old rest (a.put o.dst undef) w):dw P l.toArray Q Old (i::rest) a w:=by
 rw [fD] at A;simp only [dw,A,C];exact h
def ipA (A B:Prop):Prop:=A->B
theorem lqA {P:Program} {Q:Exit -> Act -> World -> Prop} {a b:Act} {w:As} {l:List Oper} {rest:List Nat} {i:Nat} {o:Oper} {v:Value} (A:iw l i=some o:=by rfl) (C:gW o.op=false:=by rfl) (D:Region.wanted o (yielded l.toArray a.tmps)=true:=by rfl) (E:∀w',Old w w' -> (execOp a.eval o).run P w'= .ok (.value v) w':=by intro W J;go_simp;try with_reducible rfl) (I:a.put o.dst v=b:=by simp only [Act.put,sTA,List.set];exact rfl):ipA (dw P l.toArray Q Old rest b w) (dw P l.toArray Q Old (i::rest) a w):=fun h=>cR A C D E (I▸h)
theorem lsA {P:Program} {Q:Exit -> Act -> World -> Prop} {a b:Act} {w:As} {l:List Oper} {rest:List Nat} {i:Nat} {o:Oper} (A:iw l i=some o:=by rfl) (C:Region.wanted o (yielded l.toArray a.tmps)=false:=by rfl) (D:a.put o.dst undef=b:=by simp only [Act.put,sTA,List.set];exact rfl):ipA (dw P l.toArray Q Old rest b w) (dw P l.toArray Q Old (i::rest) a w):=fun h=>zD A C (D▸h)
theorem lxA {P:Program} {Q:Exit -> Act -> World -> Prop} {a b:Act} {w:As} {l:List Oper} {rest:List Nat} {i:Nat} (h:dw P l.toArray Q Old rest b w) (k:ipA (dw P l.toArray Q Old rest b w) (dw P l.toArray Q Old (i::rest) a w):=by first|exact lsA|exact lqA|fail):dw P l.toArray Q Old (i::rest) a w:=k h
theorem bh (A:iw l i=some o) (C:gW o.op=true) (D:Region.wanted o (yielded l.toArray a.tmps)=true)
  (h:∀K:Act->World->Prop,(∀a' w',Below w.heap.size w w'->dw P l.toArray Q Old rest a' w'->K a' w')->o.wp P a w K Q):dw P l.toArray Q Old (i::rest) a w:=by
 rw [fD] at A;simp only [dw,A,D,C,YV];exact h _ (fun a' w' E I=>⟨E,I⟩)
theorem bJ {ops:Array Oper} (h:Q .normal a w):dw P ops Q Old [] a w:=h
end
def oX (B:Nat) (w w':As):Prop:=Below B w w'
structure But (g:Nat) (w w':As):Prop where
 size:w.heap.size<=w'.heap.size
 block:∀b,b<w.heap.size->b≠g->w'.heap[b]? =w.heap[b]?
theorem But.refl {g:Nat} (w:As):But g w w:=⟨VU _,fun _ _ _=>rfl⟩
theorem But.trans {g:Nat} {x y z:As} (A:But g x y) (D:But g y z):But g x z:=⟨Vd A.size D.size,fun b E C=>(D.block b (VP E A.size) C).trans (A.block b E C)⟩
theorem But.of {g:Nat} {w w':As} (h:Below w.heap.size w w'):But g w w':=⟨h.size,fun b A _=>h.block b A⟩
theorem But.setRow {g:Nat} (w:As) (cs:AS):But g w (w.setRow g cs):=⟨by simp [World.setRow],fun b _ A=>Wf w g b cs A⟩
theorem But.setCell {g:Nat} (w:As) (i:Nat) (v:Value):But g w (w.setCell ⟨g,i,none⟩ v):=⟨skA,fun b _ A=>Vq w ⟨g,i,none⟩ b v A⟩
theorem Blk.but {g:Nat} {w w':As} {b:Nat} {cs:AS} {t:TypeId} (h:Blk w b cs t) (C:But g w w') (A:b≠g):Blk w' b cs t:=(C.block b h.lt A).trans h
structure cI (T:TypeId) (w w':As):Prop where
 size:w.heap.size<=w'.heap.size
 block:∀(b:Nat) (cs:AS) (t:TypeId) (fr:Nat×Nat),w.heap[b]? =some (Obj.cells cs t fr)->t≠T->w'.heap[b]? =w.heap[b]?
theorem cI.refl {T:TypeId} (w:As):cI T w w:=⟨VU _,fun _ _ _ _ _ _=>rfl⟩
theorem cI.trans {T:TypeId} {x y z:As} (C:cI T x y) (I:cI T y z):cI T x z:=⟨Vd C.size I.size,fun b cs t D E A=>(I.block b cs t D ((C.block b cs t D E A).trans E) A).trans (C.block b cs t D E A)⟩
theorem cI.of {T:TypeId} {w w':As} (h:Below w.heap.size w w'):cI T w w':=⟨h.size,fun b _ _ _ A _=>h.block b (VT.1 A).1⟩
theorem cI.grown {T:TypeId} {w w':As} {B size n c:Nat} {a:Lt} {vs:AT} (h:Own w B T size a n c vs) (A:w.grownBy w' (Value.slice a n c).ownBlock):cI T w w':=by
 refine ⟨A.size,fun b cs t J C D=>A.block b (VT.1 C).1 fun e=> ?_⟩;rcases h.2 with ⟨k1,_⟩|⟨L,E,I,k1,_,k3,_⟩
 .rw [k1] at e;cases e
 .rw [k1] at e;cases e;rw [C] at k3;simp only [Vu,YS] at k3;exact D k3.2.1
theorem Blk.keepNot {T:TypeId} {w w':As} {b:Nat} {cs:AS} {t:TypeId} (h:Blk w b cs t) (C:cI T w w') (A:t≠T):Blk w' b cs t:=(C.block b cs t (0,0) h A).trans h
theorem kO {P:Program} {Q:Exit->Act->World->Prop} {a:Act} {w:As} (T:TypeId) (p:rz) {id:Nat} {l:List Oper} (C:P.follows .mixedOrders=true) (A:JR true l.toArray p=true)
  (D:∀c a d v w,Q (.panic c) (a.put d v) w->Q (.panic c) a w)
  (h:dk true P l.toArray Q (cI T) p a w.drew):(Code.region id l.toArray true).wp P Q a w:=by
 simp only [JR,Vh] at A;exact wp_region_any C (ny _ _ _ _ (R:=cI T) (gh (R:=cI T) (md:= .any) cI.refl (fun _ _ _ E I=>cI.trans E I) A.1.1 D p _ _ a w.drew A.1.2 (lr.none _ _ _) A.2 h))
section
variable {P:Program} {Q:Exit->Act->World->Prop} {a:Act} {w:As} {R:World->World->Prop}
theorem ah (m:Bool) (R:World->World->Prop) (C:∀w,R w w) (D:∀x y z,R x y->R y z->R x z) (p:rz) {id:Nat} {l:List Oper} (E:P.follows .mixedOrders=true) (A:JR m l.toArray p=true)
  (I:∀c a d v w,Q (.panic c) (a.put d v) w->Q (.panic c) a w)
  (h:dk m P l.toArray Q R p a w.drew):(Code.region id l.toArray true).wp P Q a w:=by
 simp only [JR,Vh] at A;exact wp_region_any E (ny _ _ _ _ (R:=R) (gh (R:=R) (md:= .any) C D A.1.1 I p _ _ a w.drew A.1.2 (lr.none _ _ _) A.2 h))
theorem rB (B:Nat) (p:rz) {id:Nat} {l:List Oper} (A:P.follows .mixedOrders=true) (C:JR false l.toArray p=true)
  (D:∀c a d v w,Q (.panic c) (a.put d v) w->Q (.panic c) a w)
  (h:dk false P l.toArray Q (oX B) p a w.drew):(Code.region id l.toArray true).wp P Q a w:=
 ah false (oX B) (fun _=>VW _ _) (fun _ _ _ E I=>ZH E I) p A C D h
theorem cO (g:Nat) (p:rz) {id:Nat} {l:List Oper} (A:P.follows .mixedOrders=true) (C:JR false l.toArray p=true)
  (D:∀c a d v w,Q (.panic c) (a.put d v) w->Q (.panic c) a w)
  (h:dk false P l.toArray Q (But g) p a w.drew):(Code.region id l.toArray true).wp P Q a w:=
 ah false (But g) But.refl (fun _ _ _ E I=>But.trans E I) p A C D h
variable {l:List Oper} {p:rz} {i:Nat} {o:Oper}
theorem bM {m:Bool} {v:Value} (A:iw l i=some o) (C:gW o.op=false) (D:Region.wanted o (yielded l.toArray a.tmps)=true)
  (E:∀w',R w w'->(execOp a.eval o).run P w'= .ok (.value v) w') (h:dk m P l.toArray Q R p (a.put o.dst v) w):dk m P l.toArray Q R (.step i p) a w:=by
 rw [fD] at A;simp only [dk,A,D,C,YV];exact ⟨v,E,h⟩
theorem Ca {m:Bool} (A:iw l i=some o) (C:Region.wanted o (yielded l.toArray a.tmps)=false) (h:dk m P l.toArray Q R p (a.put o.dst undef) w):dk m P l.toArray Q R (.step i p) a w:=by
 rw [fD] at A;simp only [dk,A,C];exact h
theorem tqA {P:Program} {Q:Exit -> Act -> World -> Prop} {a b:Act} {w:As} {R:World -> World -> Prop} {l:List Oper} {p:rz} {i:Nat} {o:Oper} {m:Bool} {v:Value} (A:iw l i=some o:=by rfl) (C:gW o.op=false:=by rfl) (D:Region.wanted o (yielded l.toArray a.tmps)=true:=by rfl) (E:∀w',R w w' -> (execOp a.eval o).run P w'= .ok (.value v) w':=by intro W J;go_simp;try with_reducible rfl) (I:a.put o.dst v=b:=by simp only [Act.put,sTA,List.set];exact rfl):ipA (dk m P l.toArray Q R p b w) (dk m P l.toArray Q R (.step i p) a w):=fun h=>bM A C D E (I▸h)
theorem tsA {P:Program} {Q:Exit -> Act -> World -> Prop} {a b:Act} {w:As} {R:World -> World -> Prop} {l:List Oper} {p:rz} {i:Nat} {o:Oper} {m:Bool} (A:iw l i=some o:=by rfl) (C:Region.wanted o (yielded l.toArray a.tmps)=false:=by rfl) (D:a.put o.dst undef=b:=by simp only [Act.put,sTA,List.set];exact rfl):ipA (dk m P l.toArray Q R p b w) (dk m P l.toArray Q R (.step i p) a w):=fun h=>Ca A C (D▸h)
theorem txA {P:Program} {Q:Exit -> Act -> World -> Prop} {a b:Act} {w:As} {R:World -> World -> Prop} {l:List Oper} {p:rz} {i:Nat} {m:Bool} (h:dk m P l.toArray Q R p b w) (k:ipA (dk m P l.toArray Q R p b w) (dk m P l.toArray Q R (.step i p) a w):=by first|exact tsA|exact tqA|fail):dk m P l.toArray Q R (.step i p) a w:=k h
theorem am {m:Bool} (A:iw l i=some o) (C:gW o.op=true) (D:Region.wanted o (yielded l.toArray a.tmps)=true)
  (h:∀K:Act->World->Prop,(∀a' w',R w w'->dk m P l.toArray Q R p a' w'->K a' w')->o.wp P a w K Q):dk m P l.toArray Q R (.step i p) a w:=by
 rw [fD] at A;simp only [dk,A,D,C,YV];exact h _ (fun a' w' E I=>⟨.inr E,I⟩)
theorem az (C:iw l i=some o) (A:pp o=true) (E:Region.wanted o (yielded l.toArray a.tmps)=true)
  (h:∀K:Act->World->Prop,(∀a' w',dk true P l.toArray Q R p a' w'->K a' w')->o.wp P a w K Q):dk true P l.toArray Q R (.step i p) a w:=by
 rw [fD] at C;have D:gW o.op=true:=by
  unfold pp at A;split at A
  .rename_i h';rw [h'];rfl
  .rename_i h';rw [h'];rfl
  .cases A
 simp only [dk,C,E,D,YV];exact h _ (fun a' w' I=>⟨.inl (by simp [ol,wY,C,A]),I⟩)
theorem aq {m:Bool} {ops:Array Oper} (h:Q .normal a w):dk m P ops Q R .done a w:=by simp only [dk];exact h
variable {rest:List (Nat×rz)}
theorem kT {m:Bool} {ops:Array Oper} (h:jH m P ops Q R rest a w):dk m P ops Q R (.fork rest) a w:=by simp only [dk];exact h
theorem mK {m:Bool} {ops:Array Oper}:jH m P ops Q R [] a w:=by simp only [jH]
theorem js {m:Bool} (C:iw l i=some o) (D:Region.wanted o (yielded l.toArray a.tmps)=true)
  (h:∀K:Act->World->Prop,(∀a' w',R w w'->dk m P l.toArray Q R p a' w'->K a' w')->o.wp P a w K Q) (A:jH m P l.toArray Q R rest a w):jH m P l.toArray Q R ((i,p)::rest) a w:=by
 rw [fD] at C;simp only [jH,C,D,YV];exact ⟨h _ (fun a' w' E A=>⟨.inr E,A⟩),A⟩
end
structure oY (P:Program) (l:List Oper) (Q:Exit->Act->World->Prop) (order:List Nat) (a:Act) (w:As):Prop where
 out:dw P l.toArray Q Old order a w
section
variable {P:Program} {Q:Exit->Act->World->Prop} {a:Act} {w:As}
theorem bR (A:List Nat) {id:Nat} {l:List Oper} (C:P.follows .mixedOrders=true) (D:MC l.toArray A=true)
  (E:∀c a d v w,Q (.panic c) (a.put d v) w->Q (.panic c) a w)
  (h:oY P l Q A a w.drew):(Code.region id l.toArray true).wp P Q a w:=aB A C D E h.out
variable {l:List Oper} {rest:List Nat} {i:Nat} {o:Oper}
theorem eA {v:Value} (A:iw l i=some o) (C:gW o.op=false) (D:Region.wanted o (yielded l.toArray a.tmps)=true)
  (E:∀w',Old w w'->(execOp a.eval o).run P w'= .ok (.value v) w') (h:oY P l Q rest (a.put o.dst v) w):oY P l Q (i::rest) a w:=⟨cR A C D E h.out⟩
theorem zJ (A:iw l i=some o) (C:Region.wanted o (yielded l.toArray a.tmps)=false) (h:oY P l Q rest (a.put o.dst undef) w):oY P l Q (i::rest) a w:=⟨zD A C h.out⟩
theorem gqA {P:Program} {Q:Exit -> Act -> World -> Prop} {a b:Act} {w:As} {l:List Oper} {rest:List Nat} {i:Nat} {o:Oper} {v:Value} (A:iw l i=some o:=by rfl) (C:gW o.op=false:=by rfl) (D:Region.wanted o (yielded l.toArray a.tmps)=true:=by rfl) (E:∀w',Old w w' -> (execOp a.eval o).run P w'= .ok (.value v) w':=by intro W J;go_simp;try with_reducible rfl) (I:a.put o.dst v=b:=by simp only [Act.put,sTA,List.set];exact rfl):ipA (oY P l Q rest b w) (oY P l Q (i::rest) a w):=fun h=>eA A C D E (I▸h)
theorem gsA {P:Program} {Q:Exit -> Act -> World -> Prop} {a b:Act} {w:As} {l:List Oper} {rest:List Nat} {i:Nat} {o:Oper} (A:iw l i=some o:=by rfl) (C:Region.wanted o (yielded l.toArray a.tmps)=false:=by rfl) (D:a.put o.dst undef=b:=by simp only [Act.put,sTA,List.set];exact rfl):ipA (oY P l Q rest b w) (oY P l Q (i::rest) a w):=fun h=>zJ A C (D▸h)
theorem gxA {P:Program} {Q:Exit -> Act -> World -> Prop} {a b:Act} {w:As} {l:List Oper} {rest:List Nat} {i:Nat} (h:oY P l Q rest b w) (k:ipA (oY P l Q rest b w) (oY P l Q (i::rest) a w):=by first|exact gsA|exact gqA|fail):oY P l Q (i::rest) a w:=k h
theorem bV (A:iw l i=some o) (C:gW o.op=true) (D:Region.wanted o (yielded l.toArray a.tmps)=true)
  (h:∀K:Act->World->Prop,(∀a' w',Below w.heap.size w w'->oY P l Q rest a' w'->K a' w')->o.wp P a w K Q):oY P l Q (i::rest) a w:=
 ⟨bh A C D fun K E=>h K fun a' w' I J=>E a' w' I J.out⟩
theorem eS (h:Q .normal a w):oY P l Q [] a w:=⟨bJ h⟩
end
open Go.RowKit
theorem eF {P:Program} {w:As} {o:Oper} {a:Act} {K:Act->World->Prop} {Q:Exit->Act->World->Prop} (s x:Operand) (t:TypeId)
  (S:o.op= .call {callee:= .builtin .append,args:= #[s,x],argTypes:= #[t,t]}) {e:TypeId} {size bytes:Nat} (hT:bC P t e size bytes)
  {B:Nat} {C:Lt} {n D:Nat} {I:AT} (T:a.eval s= .slice C n D) (L:Own w B e size C n D I)
  {M:Lt} {m xc:Nat} {A:AT} (hx:a.eval x= .slice M m xc) (E:av w M A) (N:A.length=m*size) (h1:∀u∈A,u.oneCell'=true)
  (A1:n+m<=maxLen) (Z:(n+m)*bytes<=140737488355328) (d:B<=w.heap.size)
  (h:∀a' c' w',Own w' B e size a' (n+m) c' (I++A)->w.grownBy w' (Value.slice C n D).ownBlock->K (a.put o.dst (.slice a' (n+m) c')) w'):o.wp P a w K Q:=by
 obtain ⟨U,A2,i,z,V,hz,q,A3,A4⟩:=hT;have y:∀(J:Value) (w':As),w'.ownsRow B e size J (n+m) (I++A)->∃a' c',J= .slice a' (n+m) c':=by
  intro J w' h';rcases h'.2 with ⟨rfl,hn⟩|⟨g,cap,A6,rfl,_⟩
  .exact ⟨none,0,by rw [hn]⟩
  .exact ⟨_,_,rfl⟩
 match M,hx,E with
 |none,hx,E=>
  have A5:A=[]:=by
   cases A with
   |nil=>rfl
   |cons u r=>obtain ⟨b,o,O,_⟩:=E 0 skA;cases O
  subst A5;have hm:m=0:=by
   simp only [Xz] at N;rcases Nat.mul_eq_zero.1 N.symm with h|h
   .exact h
   .omega
  subst hm;have A0:=kY (P:=P) (w:=w) B t o.type e i size U V (.slice C n D) n xc I L;unfold Oper.wp;simp [execOp,S,resolve,invoke,builtin,T,hx,A0,Result.andThen];have X:=h C D w (by simpa using L) (Wd _ _);simp at X;exact X
 |some ad,hx,E=>
  refine wp_append_own w s x t S B e i z size bytes U V hz q A3 A4 A2 (.slice C n D) n I T L ad m xc A hx N ?_ h1 A1 Z d ?_
  .intro j u hu;have Y:j<A.length:=(Vm.1 hu).1;obtain ⟨b,o,O,hc⟩:=E j Y;obtain rfl:=Ww O;rw [WA,hc,<-hu,VJ Y]
  .intro J w' hown' hg _;obtain ⟨a',c',rfl⟩:=y J w' hown';exact h a' c' w' hown' hg
section
variable {P:Program} {Q:Exit->Act->World->Prop} {a:Act} {w:As} {B:Nat}
theorem lN (B:Nat) (A:List Nat) {id:Nat} {l:List Oper} (C:P.follows .mixedOrders=true) (D:MC l.toArray A=true)
  (E:∀c a d v w,Q (.panic c) (a.put d v) w->Q (.panic c) a w)
  (h:dw P l.toArray Q (oX B) A a w.drew):(Code.region id l.toArray true).wp P Q a w:=
 lM (R:=oX B) A (fun _=>VW _ _) (fun _ _ _ I J=>ZH I J) C D E h
variable {l:List Oper} {rest:List Nat} {i:Nat} {o:Oper}
theorem ij {v:Value} (A:iw l i=some o) (C:gW o.op=false) (D:Region.wanted o (yielded l.toArray a.tmps)=true)
  (E:∀w',oX B w w'->(execOp a.eval o).run P w'= .ok (.value v) w') (h:dw P l.toArray Q (oX B) rest (a.put o.dst v) w):dw P l.toArray Q (oX B) (i::rest) a w:=by
 rw [fD] at A;simp only [dw,A,D,C,YV];exact ⟨v,E,h⟩
theorem mX (A:iw l i=some o) (C:Region.wanted o (yielded l.toArray a.tmps)=false) (h:dw P l.toArray Q (oX B) rest (a.put o.dst undef) w):dw P l.toArray Q (oX B) (i::rest) a w:=by
 rw [fD] at A;simp only [dw,A,C];exact h
theorem ix (A:iw l i=some o) (C:gW o.op=true) (D:Region.wanted o (yielded l.toArray a.tmps)=true)
  (h:∀K:Act->World->Prop,(∀a' w',oX B w w'->dw P l.toArray Q (oX B) rest a' w'->K a' w')->o.wp P a w K Q):dw P l.toArray Q (oX B) (i::rest) a w:=by
 rw [fD] at A;simp only [dw,A,D,C,YV];exact h _ (fun a' w' E I=>⟨E,I⟩)
theorem zF {ops:Array Oper} (h:Q .normal a w):dw P ops Q (oX B) [] a w:=h
end
open Go.RowKit
def Rx (B:Nat) (T:TypeId) (w w':As):Prop:=Below B w w'/\cI T w w'
theorem Rx.refl {B:Nat} {T:TypeId} (w:As):Rx B T w w:=⟨VW _ _,cI.refl w⟩
theorem Rx.trans {B:Nat} {T:TypeId} (x y z:As) (A:Rx B T x y) (C:Rx B T y z):Rx B T x z:=⟨A.1.trans C.1,cI.trans A.2 C.2⟩
theorem Rx.old {B:Nat} {T:TypeId} {w w':As} (A:Below w.heap.size w w') (C:B<=w.heap.size):Rx B T w w':=⟨A.mono C,cI.of A⟩
theorem Rx.alloc {B:Nat} {T:TypeId} (w:As) (A:B<=w.heap.size) (o:Obj):Rx B T w (w.alloc o):=Rx.old ((VW _ _).alloc (VU _) o) A
theorem Rx.grown {B B':Nat} {T:TypeId} {w w':As} {size:Nat} {a:Lt} {n c:Nat} {vs:AT} (h:Own w B' T size a n c vs) (C:B<=B') (D:B<=w.heap.size) (A:w.grownBy w' (Value.slice a n c).ownBlock):Rx B T w w':=
 ⟨h.grown (VW _ _) C A D,cI.grown h A⟩
theorem Rx.cell {B:Nat} {T:TypeId} {w w':As} (h:Rx B T w w') {b:Nat} {i:Nat} {v:Value} (A:b<B) (C:w.cell? ⟨b,i,none⟩=some v):w'.cell? ⟨b,i,none⟩=some v:=by
 rw [h.1.cell (p:=⟨b,i,none⟩) A];exact C
theorem Rx.blk {B:Nat} {T:TypeId} {w w':As} (h:Rx B T w w') {b:Nat} {cs:AS} {t:TypeId} (C:Blk w b cs t) (A:t≠T):Blk w' b cs t:=C.keepNot h.2 A
section
variable {P:Program} {Q:Exit->Act->World->Prop} {a:Act} {w:As}
theorem gz (B:Nat) (T:TypeId) (p:rz) {id:Nat} {l:List Oper} (A:P.follows .mixedOrders=true) (C:JR false l.toArray p=true)
  (D:∀c a d v w,Q (.panic c) (a.put d v) w->Q (.panic c) a w)
  (h:dk false P l.toArray Q (Rx B T) p a w.drew):(Code.region id l.toArray true).wp P Q a w:=
 ah false (Rx B T) Rx.refl Rx.trans p A C D h
end
open Go.RowKit
theorem gY {P:Program} {o:Oper} {a:Act} {w:As} {K:Act->World->Prop} {Q:Exit->Act->World->Prop} (d s:Operand) (J O:TypeId)
  (X:o.op= .call {callee:= .builtin .copy,args:= #[d,s],argTypes:= #[J,O]}) {D:TypeId} (Y:P.underlying J=some (.slice D)) (V:(P.info? D).map (·.size)=some 1)
  {g A E M:Nat} {L:Addr} {I N:Nat} (Z:a.eval d= .slice (some ⟨g,A,none⟩) E M) (q:a.eval s= .slice (some L) I N)
  {C:AS} {t:TypeId} (r:Blk w g C t) {cs:AT} (y:cs.length=Nat.min I E)
  (S:∀j v,cs[j]? =some v->w.cell? (L.add j)=some v) (T:A+cs.length<=C.size) (h1:∀v∈cs,v.oneCell'=true)
  (h:K (a.put o.dst (goInt cs.length)) (w.setRow g (cU C A cs.toArray))):o.wp P a w K Q:=by
 have U:=run_copy_row (P:=P) w J O o.type D g A E M L I N C t cs Y V r y S T h1;unfold Oper.wp;simp [execOp,X,resolve,invoke,builtin,Z,q,U,Result.andThen];simp [cU] at h;exact h
theorem kQ {P:Program} {o:Oper} {a:Act} {w:As} {ops:Array Oper} {rest:List Oper} {Q:Exit->Act->World->Prop} (U:o.guard=none) (d s:Operand) (D L:TypeId)
  (X:o.op= .call {callee:= .builtin .copy,args:= #[d,s],argTypes:= #[D,L]}) {E:TypeId} (Y:P.underlying D=some (.slice E)) (V:(P.info? E).map (·.size)=some 1)
  {g A I N:Nat} {M:Addr} {J O:Nat} (Z:a.eval d= .slice (some ⟨g,A,none⟩) I N) (q:a.eval s= .slice (some M) J O)
  {C:AS} {t:TypeId} (r:Blk w g C t) {cs:AT} (y:cs.length=Nat.min J I)
  (S:∀j v,cs[j]? =some v->w.cell? (M.add j)=some v) (T:A+cs.length<=C.size) (h1:∀v∈cs,v.oneCell'=true)
  (h:wpList P ops Q rest (a.put o.dst (goInt cs.length)) (w.setRow g (cU C A cs.toArray))):wpList P ops Q (o::rest) a w:=
 XJ U fun _ hK=>gY d s D L X Y V Z q r y S T h1 (hK _ _ h)
theorem av.src {w:As} {C:Addr} {vs:AT} (h:av w (some C) vs) (n:Nat):∀j v,(vs.take n)[j]? =some v->w.cell? (C.add j)=some v:=by
 intro j v A;rw [List.getElem?_take] at A;split at A
 .obtain ⟨D,rfl⟩:=Vm.1 A;obtain ⟨b,o,e,E⟩:=h j D;obtain rfl:=Ww e;rw [WA];exact E
 .cases A
open Go.RowKit
def vL (n:Nat) (f:Nat->Value):AT:=(List.range n).map f
def vA (n:Nat) (f:Nat->Value):AS:=(vL n f).toArray
section
variable {n:Nat} {f g:Nat->Value}
theorem df (n:Nat) (f:Nat->Value):(vL n f).length=n:=by simp [vL]
theorem ay (n:Nat) (f:Nat->Value):(vA n f).size=n:=by simp [vA,vL]
theorem uV (n:Nat) (f:Nat->Value):(vA n f).toList=vL n f:=rfl
theorem mJ (f:Nat->Value) {i:Nat} (h:i<n):(vA n f)[i]? =some (f i):=by simp [vA,vL,h]
theorem BT (f:Nat->Value) {i:Nat} (h:n<=i):(vA n f)[i]? =none:=Wz (by rw [ay];exact h)
theorem LY (f:Nat->Value) {i:Nat} (h:i<n):(vL n f)[i]? =some (f i):=by simp [vL,h]
theorem IS (h:∀i,i<n->f i=g i):vL n f=vL n g:=by
 unfold vL;apply WQ;intro i A;rw [h i (Wk.1 A)]
theorem BU (h:∀i,i<n->f i=g i):vA n f=vA n g:=by unfold vA;rw [IS h]
theorem IT {cs:AS} (C:cs.size=n) (h:∀i,i<n->cs[i]? =some (f i)):cs=vA n f:=by
 apply XA;intro i;by_cases A:i<n
 .rw [h i A,mJ f A]
 .rw [BT f oA,Wz oA]
theorem PN {cs:AT} (C:cs.length=n) (h:∀i,i<n->cs[i]? =some (f i)):cs=vL n f:=by
 apply Yi;intro i;by_cases A:i<n
 .rw [h i A,LY f A]
 .rw [WK oA,WK (by rw [df];omega)]
theorem LZ (f:Nat->Value) {i:Nat} (v:Value) (_h:i<n):(vA n f).setIfInBounds i v=vA n fun j=>if j=i then v else f j:=by
 refine IT (by simp [ay]) fun j A=> ?_;by_cases e:i=j
 .subst e;simp [ay,A]
 .rw [Yo e,mJ _ A,VV (Vl e)]
theorem dF (h:∀i,i<n->(f i).oneCell'=true):(vA n f).toList.all (·.oneCell')=true:=by
 rw [uV,Xx];intro v A;obtain ⟨i,C,rfl⟩:=VH.1 A;exact h i (Wk.1 C)
theorem BS (f:Nat->Value) {o m:Nat} (h:o+m<=n):((vA n f).toList.drop o).take m=vL m fun j=>f (o+j):=by
 refine PN (by simp [uV,df];omega) fun j A=> ?_;rw [WF A,Wh,WJ,mJ _ oA]
theorem kS (f g:Nat->Value) {o m:Nat} (h:o+m<=n):cU (vA n f) o (vA m g)=vA n fun j=>if o<=j/\j<o+m then g (j-o) else f j:=by
 refine IT (by simp [cU,ay];omega) fun j A=> ?_;simp only [cU,ay];have C:(List.take o (vA n f).toList++(vA m g).toList++List.drop (o+m) (vA n f).toList).toArray[j]? =(List.take o (vA n f).toList++((vA m g).toList++List.drop (o+m) (vA n f).toList))[j]? :=skA;rw [C];by_cases D:j<o
 .rw [Vo (by simp [ay];omega),WF D,WJ,mJ _ A,VV oA]
 .rw [Vw (by simp [ay];omega)];have e:(List.take o (vA n f).toList).length=o:=(by simp [ay];omega);rw [e];by_cases E:j<o+m
  .rw [Vo (by simp [ay];omega),WJ,mJ _ oA,Vz ⟨oA,E⟩]
  .rw [Vw (by simp [ay];omega),Wh];have I:o+m+(j-o-(vA m g).toList.length)=j:=(by simp [ay];omega);rw [I,WJ,mJ _ A,VV oA]
theorem kU (C A:AS) (h:C.size=A.size):cU C 0 A=A:=by
 have e:List.drop A.size C.toList=[]:=Xr (by simp [h]);simp [cU,e]
theorem Blk.ofV {w:As} {b:Nat} {ty:TypeId} (h:Blk w b (vA n f) ty) (e:∀i,i<n->f i=g i):Blk w b (vA n g) ty:=by rw [<-BU e];exact h
theorem Blk.setV {w:As} {b k:Nat} {ty:TypeId} (h:Blk w b (vA n f) ty) (A:k<n) (v:Value):Blk (w.setCell ⟨b,k,none⟩ v) b (vA n fun j=>if j=k then v else f j) ty:=by
 have:=h.set k v;rwa [LZ _ _ A] at this
theorem Blk.atV {w:As} {b k:Nat} {ty:TypeId} (h:Blk w b (vA n f) ty) (A:k<n) {v:Value} (C:f k=v):w.cell? ⟨b,k,none⟩=some v:=by rw [h.rule,mJ _ A,C]
end
theorem kr {G:World->Prop} {W:As} (F:World->Prop) (C:F W) (h:∀A,F A->G A):G W:=h W C
theorem jq {P:Program} {ty:TypeId} {v:Value} (h:(P.info? ty).bind (·.zero)=some v) (W:As):(zeroValue ty).run P W= .ok v W:=by
 cases A:P.info? ty with
 |none=>simp [A] at h
 |some i=>
  have C:i.zero=some v:=(by simpa [A] using h);simp [zeroValue,typeInfo,A,C]
theorem eI {P:Program} {ty:TypeId} {n:Nat} (h:(P.info? ty).map (·.size)=some n) (W:As):(sizeOf ty).run P W= .ok n W:=by
 cases A:P.info? ty with
 |none=>simp [A] at h
 |some i=>simp [A] at h;simp [sizeOf,typeInfo,A,h]
def wv (a:BitVec 32):Value:= .int .u32 (U32 a)
open Go.RowKit
section
variable {a b c w:As} {g:Nat}
theorem ss {x:Option Nat} (h:a.grownBy b x) (k:b.grownBy c x):a.grownBy c x:=
 ⟨k.os.trans h.os,k.tape.trans h.tape,k.output.trans h.output,Vd h.size k.size,fun i A C=>(k.block i (VP A h.size) C).trans (h.block i A C)⟩
theorem jg {x:Option Nat} (h:a.grownBy w x):a.grownBy w.drew x:=⟨h.os,h.tape,h.output,h.size,h.block⟩
theorem nP {x:Option Nat} (h:a.grownBy w x) (o:Obj):a.grownBy (w.alloc o) x:=ss h (World.grownBy_alloc w o x)
theorem gv (h:a.grownBy w (some g)) (i:Nat) (u:Value):a.grownBy (w.setCell ⟨g,i,none⟩ u) (some g):=
 ⟨h.os,h.tape,h.output,by simpa [World.setCell] using h.size,fun k C A=>(Vq w ⟨g,i,none⟩ k u (by rintro rfl;exact A rfl)).trans (h.block k C A)⟩
theorem qy (h:a.grownBy w (some g)) (cs:AS):a.grownBy (w.setRow g cs) (some g):=
 ⟨h.os,h.tape,h.output,by simpa [World.setRow] using h.size,fun k C A=>(Wf w g k cs (by rintro rfl;exact A rfl)).trans (h.block k C A)⟩
theorem pg {x:Option Nat} (h:a.grownBy w x) {A i:Nat} (E:a.heap.size<=A) (u:Value):a.grownBy (w.setCell ⟨A,i,none⟩ u) x:=
 ⟨h.os,h.tape,h.output,by simpa [World.setCell] using h.size,fun k D C=>(Vq w ⟨A,i,none⟩ k u (by show k≠A;omega)).trans (h.block k D C)⟩
theorem qz {x:Option Nat} (h:a.grownBy w x) {A:Nat} (E:a.heap.size<=A) (cs:AS):a.grownBy (w.setRow A cs) x:=
 ⟨h.os,h.tape,h.output,by simpa [World.setRow] using h.size,fun k D C=>(Wf w A k cs oA).trans (h.block k D C)⟩
theorem AK {x:Option Nat} (h:Below a.heap.size a w):a.grownBy w x:=⟨h.os,h.tape,h.output,h.size,fun i A _=>h.block i A⟩
theorem Db {x:Option Nat} (h:a.grownBy w x) (k:Below w.heap.size w b):a.grownBy b x:=ss h (AK k)
theorem nZ {B:Nat} (h:Below B a w) (A:B<=w.heap.size) (k:w.grownBy b (some g)) (C:B<=g):Below B a b:=
 h.grown k A (fun j D=>by cases D;exact C)
end
open Go.RowKit
structure Mid (w:As) (B:Nat) (e:TypeId) (a:Lt) (n c:Nat) (vs:AT):Prop where
 len:vs.length=n
 le:n<=c
 max:c<=maxLen
 nil:a=none->c=0
 row:0<c->∃r o cur,a=some ⟨r,o,none⟩/\B<=r/\Blk w r cur e/\o+c<=cur.size/\(cur.toList.drop o).take n=vs
def bI (a:Lt) (c:Nat):Option Nat:=if c=0 then none else a.map (·.block)
section
variable {w w':As} {B:Nat} {e:TypeId} {a:Lt} {n c:Nat} {vs:AT}
theorem jf {r o:Nat} (A:0<c):bI (some ⟨r,o,none⟩) c=some r:=by simp [bI];omega
theorem Mid.nil' (w:As) (B:Nat) (e:TypeId):Mid w B e none 0 0 []:=⟨rfl,VU _,mxA,fun _=>rfl,fun h=>by omega⟩
theorem Mid.lower {B':Nat} (h:Mid w B e a n c vs) (C:B'<=B):Mid w B' e a n c vs:=
 ⟨h.len,h.le,h.max,h.nil,fun D=>by obtain ⟨r,o,A,E,I,J⟩:=h.row D;exact ⟨r,o,A,E,Vd C I,J⟩⟩
theorem Mid.of (h:Own w B e 1 a n c vs):Mid w B e a n c vs:=by
 refine ⟨by have:=h.length;omega,h.le,h.cap_le,?_,fun J=> ?_⟩
 .rintro rfl;rcases h.2 with ⟨A,_⟩|⟨g,cap,C,A,_⟩
  .simp only [Vi] at A;omega
  .simp at A
 .rcases h.2 with ⟨A,L⟩|⟨g,cap,C,A,D,E,_,_,M,I⟩
  .simp only [Vi] at A;omega
  .simp only [Vi] at A;obtain ⟨rfl,-,rfl⟩:=A;exact ⟨g,0,C,rfl,D,E,oA,by simpa using I⟩
theorem Mid.keep (h:Mid w B e a n c vs) (E:∀r,bI a c=some r->w'.heap[r]? =w.heap[r]?):Mid w' B e a n c vs:=
 ⟨h.len,h.le,h.max,h.nil,fun A=>by
  obtain ⟨r,o,D,C,I,J,L⟩:=h.row A;refine ⟨r,o,D,C,I,?_,L⟩;unfold Blk;rw [E r (by rw [C];exact jf A)];exact J⟩
theorem Mid.lt (h:Mid w B e a n c vs) {r:Nat} (C:bI a c=some r):B<=r/\r<w.heap.size/\∃A,Blk w r A e:=by
 have E:0<c:=by
  rcases ZK c with D|D
  .subst D;simp [bI] at C
  .exact D
 obtain ⟨M,o,A,J,L,I,_⟩:=h.row E;rw [J,jf E] at C;cases C;exact ⟨L,I.lt,A,I⟩
theorem Mid.old (h:Mid w B e a n c vs) (A:Below w.heap.size w w'):Mid w' B e a n c vs:=h.keep fun r C=>A.block r (h.lt C).2.1
theorem Mid.drew (h:Mid w B e a n c vs):Mid w.drew B e a n c vs:=h.keep fun _ _=>rfl
theorem Mid.alloc (h:Mid w B e a n c vs) (o:Obj):Mid (w.alloc o) B e a n c vs:=h.old ((VW _ _).alloc (VU _) o)
theorem Mid.setCell (h:Mid w B e a n c vs) {g:Nat} {cs:AS} {t:TypeId} (D:Blk w g cs t) (C:t≠e) (i:Nat) (v:Value):Mid (w.setCell ⟨g,i,none⟩ v) B e a n c vs:=h.keep fun r E=>by
 obtain ⟨_,_,I,A⟩:=h.lt E;exact Vq w ⟨g,i,none⟩ r v (by rintro rfl;exact (Blk.ne A D (Vl C)) rfl)
theorem Mid.setRow (h:Mid w B e a n c vs) {g:Nat} {cs:AS} {t:TypeId} (E:Blk w g cs t) (D:t≠e) (A:AS):Mid (w.setRow g A) B e a n c vs:=h.keep fun r I=>by
 obtain ⟨_,_,J,C⟩:=h.lt I;exact Wf w g r A (Blk.ne C E (Vl D))
theorem Mid.read (h:Mid w B e a n c vs):av w a vs:=by
 intro i A;have D:0<c:=(by have:=h.le;have:=h.len;omega);obtain ⟨r,o,L,rfl,_,E,M,I⟩:=h.row D;refine ⟨r,o,rfl,?_⟩;rw [E.rule];have J:vs[i]? =some vs[i]:=VJ A;have C:i<n:=(by rw [<-h.len];exact A);rw [<-J,<-I,WF C,Wh,WJ]
def lF (a:Lt) (c k:Nat):Lt:=if c=k then a else a.map (·.add (k*1))
theorem Mid.cut (h:Mid w B e a n c vs) (k:Nat) (M:k<=n):Mid w B e (lF a c k) (n-k) (c-k) (vs.drop k):=by
 have L:=h.le;have J:=h.max;refine ⟨by rw [ldA,h.len],oA,oA,fun A=> ?_,fun N=> ?_⟩
 .unfold lF at A;split at A
  .omega
  .have:=h.nil (by simpa using A);omega
 .obtain ⟨r,o,C,rfl,D,E,O,I⟩:=h.row oA;refine ⟨r,o+k,C,?_,D,E,oA,?_⟩
  .unfold lF;rw [VV oA,Xt,WA,Vr]
  .rw [<-I,List.drop_take,XW]
theorem ze (a:Lt) (c k:Nat):bI (lF a c k) (c-k)=none\/bI (lF a c k) (c-k)=bI a c:=by
 unfold bI lF;by_cases h:c-k=0
 .left;rw [Vz h]
 .right;rw [VV h,VV (show ¬c=k by omega),VV (show ¬c=0 by omega)];cases a with
  |none=>rfl
  |some ad=>
   obtain ⟨b,o,A⟩:=ad;by_cases C:k=0<;>cases A<;>simp [Addr.add,C]
end
section
variable {P:Program}
theorem lO {w:As} {B:Nat} {e:TypeId} {I:Lt} {n E:Nat} {vs:AT} (t ty:TypeId) {bytes:Nat} (hT:bC P t e 1 bytes) (h:Mid w B e I n E vs)
  {U:Lt} {m xc:Nat} {A:AT} (A2:av w U A) (J:A.length=m) (h1:∀u∈A,u.oneCell'=true) (A5:n+m<=maxLen) (A0:(n+m)*bytes<=140737488355328) (hB:B<=w.heap.size):
  ∃a' c' w',(Builtin.append_ #[t,t] ty #[.slice I n E,.slice U m xc]).run P w= .ok (.slice a' (n+m) c') w'/\Mid w' B e a' (n+m) c' (vs++A)/\w.grownBy w' (bI I E)/\
   (bI a' c'=bI I E\/∃b,bI a' c'=some b/\w.heap.size<=b):=by
 obtain ⟨L,B0,i,z,M,hz,S,A6,A7⟩:=hT;by_cases hm:m=0
 .subst hm;obtain rfl:A=[]:=VX J;refine ⟨I,E,w,?_,by simpa using h,Wd _ _,.inl rfl⟩;have q:=h.le;cases I with
  |none=>
   have X:=h.nil rfl;subst X;obtain rfl:n=0:=oA;cases U with
   |none=>simp [Builtin.append_,WV L,sizeOf,typeInfo,M,Builtin.lenOf,Builtin.firstCells]
   |some D=>
    have T:=Zz (P:=P) w i.size 0 D 0 xc [] skA (fun j u N=>by simp at N);simp [Builtin.append_,WV L,sizeOf,typeInfo,M,Builtin.lenOf,T]
  |some ad=>
   cases U with
   |none=>simp [Builtin.append_,WV L,sizeOf,typeInfo,M,Builtin.lenOf,Builtin.firstCells,q,storeCells]
   |some D=>
    have T:=Zz (P:=P) w i.size 0 D 0 xc [] skA (fun j u N=>by simp at N);simp [Builtin.append_,WV L,sizeOf,typeInfo,M,Builtin.lenOf,T,q,storeCells]
 .obtain ⟨D,rfl⟩:∃ad,U=some ad:=by
   obtain ⟨b,o,hx,_⟩:=A2 0 oA;exact ⟨_,hx⟩
  have Z:∀j u,A[j]? =some u->w.cell? (D.add j)=some u:=fun j u N=>by
   obtain ⟨hj,rfl⟩:=Vm.1 N;obtain ⟨b,o,he,Y⟩:=A2 j hj;obtain rfl:=Ww he;rw [WA];exact Y
  by_cases A1:n+m<=E
  .obtain ⟨r,o,C,rfl,h2,h3,h4,h5⟩:=h.row oA;have T:=Zz (P:=P) w i.size m D m xc A (by rw [J,S,Vr]) Z;have y:=run_storeCells_at (P:=P) r (o+n*i.size) e A 0 C w h3 (by rw [S];omega) h1;refine ⟨some ⟨r,o,none⟩,E,w.setRow r (C.toList.take (o+n)++A++C.toList.drop (o+n+A.length)).toArray,?_,?_,?_,.inl rfl⟩
   .simp only [Yf] at y;have e1:o+n*i.size=o+n:=(by rw [S,Vr]);rw [e1] at y;simp [Builtin.append_,WV L,sizeOf,typeInfo,M,Builtin.lenOf,A1,T,Addr.add_lit,e1,y]
   .refine ⟨by rw [laA,h.len,J],A1,h.max,(fun hn=>by cases hn),fun Y=>⟨r,o,_,rfl,h2,h3.setRow _,?_,?_⟩⟩
    .simp;omega
    .have el:(List.take (o+n) C.toList).length=o+n:=soA;have e2:List.drop o (List.take (o+n) C.toList++A++List.drop (o+n+A.length) C.toList)=vs++A++List.drop (o+n+A.length) C.toList:=by
      rw [Vf,XO oA,List.drop_take,show o+n-o=n by omega,h5,Vf]
     show List.take (n+m) (List.drop o (List.take (o+n) C.toList++A++List.drop (o+n+A.length) C.toList))=vs++A;rw [e2,Xh (by rw [laA,h.len,J];omega),VZ (by rw [laA,h.len,J];omega)]
   .rw [jf oA];exact ⟨rfl,rfl,rfl,by simp [World.setRow],fun k _ A8=>Wf w r k _ (by rintro rfl;exact A8 rfl)⟩
  .have hgrow:∃O w',(Builtin.append_ #[t,t] ty #[.slice I n E,.slice (some D) m xc]).run P w= .ok O w'/\w'.ownsRow w.heap.size e 1 O (n+m) (vs++A)/\w.grownBy w' none:=by
    cases I with
    |some b=>
     refine run_append_arg_grows (P:=P) w t ty e i z 1 bytes L M hz S A6 A7 oA b n E vs (by rw [h.len,Vr]) (fun j u N=> ?_) D m xc A (by rw [J,Vr]) Z oA A5 A0;obtain ⟨hj,rfl⟩:=Vm.1 N;obtain ⟨b',o,he,Y⟩:=h.read j hj;obtain rfl:=Ww he;rw [WA];exact Y
    |none=>
     have X:=h.nil rfl;have q:=h.le;subst X;obtain rfl:n=0:=oA;obtain rfl:vs=[]:=VX h.len;obtain ⟨O,w',d,r1,r2,_⟩:=run_append_own (P:=P) w w.heap.size t ty e i z 1 bytes L M hz S A6 A7 oA (.slice none 0 0) 0 [] (World.ownsRow_nil w _ e 1) D m xc A (by rw [J,Vr]) Z h1 A5 A0 (VU _);exact ⟨O,w',d,r1,r2⟩
   obtain ⟨O,w',d,A3,V⟩:=hgrow;obtain ⟨g,cap,rfl,A9,_⟩:∃g cap,O= .slice (some ⟨g,0,none⟩) (n+m) cap/\w.heap.size<=g/\True:=by
    rcases A3.2 with ⟨_,X⟩|⟨g,cap,C,rfl,BY,_⟩
    .omega
    .exact ⟨g,cap,rfl,BY,trivial⟩
   have A4:Mid w' w.heap.size e (some ⟨g,0,none⟩) (n+m) cap (vs++A):=Mid.of (n:=n+m) A3;refine ⟨_,_,w',d,A4.lower hB,⟨V.os,V.tape,V.output,V.size,fun k hk _=>V.block k hk skA⟩,.inr ⟨g,jf (by have:=A4.le;omega),A9⟩⟩
theorem ke {w:As} {o:Oper} {a:Act} {K:Act->World->Prop} {Q:Exit->Act->World->Prop} (s x:Operand) (t:TypeId) (N:o.op= .call {callee:= .builtin .append,args:= #[s,x],argTypes:= #[t,t]})
  {e:TypeId} {bytes:Nat} (O:bC P t e 1 bytes) {B:Nat} {C:Lt} {n D:Nat} {vs:AT} (S:a.eval s= .slice C n D) (h:Mid w B e C n D vs)
  {E:Lt} {m xc:Nat} {A:AT} (hx:a.eval x= .slice E m xc) (J:av w E A) (T:A.length=m) (U:∀u∈A,u.oneCell'=true) (M:n+m<=maxLen) (I:(n+m)*bytes<=140737488355328) (V:B<=w.heap.size)
  (X:∀a' c' w',Mid w' B e a' (n+m) c' (vs++A)->w.grownBy w' (bI C D)->(bI a' c'=bI C D\/∃b,bI a' c'=some b/\w.heap.size<=b)->K (a.put o.dst (.slice a' (n+m) c')) w'):o.wp P a w K Q:=by
 obtain ⟨a',c',w',L,Y,Z,d⟩:=lO (P:=P) t o.type O h J T U M I V (xc:=xc);unfold Oper.wp;simp [execOp,N,resolve,invoke,builtin,S,hx,L,Result.andThen];exact X a' c' w' Y Z d
theorem dq {w:As} {ops:Array Oper} {rest:List Oper} {o:Oper} {a:Act} {Q:Exit->Act->World->Prop} (L:o.guard=none) (s x:Operand) (t:TypeId) (O:o.op= .call {callee:= .builtin .append,args:= #[s,x],argTypes:= #[t,t]})
  {e:TypeId} {bytes:Nat} (S:bC P t e 1 bytes) {B:Nat} {C:Lt} {n D:Nat} {vs:AT} (T:a.eval s= .slice C n D) (h:Mid w B e C n D vs)
  {E:Lt} {m xc:Nat} {A:AT} (hx:a.eval x= .slice E m xc) (J:av w E A) (U:A.length=m) (V:∀u∈A,u.oneCell'=true) (M:n+m<=maxLen) (I:(n+m)*bytes<=140737488355328) (X:B<=w.heap.size)
  (Y:∀a' c' w',Mid w' B e a' (n+m) c' (vs++A)->w.grownBy w' (bI C D)->(bI a' c'=bI C D\/∃b,bI a' c'=some b/\w.heap.size<=b)->wpList P ops Q rest (a.put o.dst (.slice a' (n+m) c')) w'):wpList P ops Q (o::rest) a w:=
 XJ L fun _ N=>ke s x t O S T h hx J U V M I X fun a' c' w' Z d j=>N _ _ (Y a' c' w' Z d j)
theorem oq {t e:TypeId} (C:P.underlying t=some (.slice e)) (A:(P.info? e).map (·.size)=some 1) (a:Lt) (n c k:Nat) (J:k<=n) (W:As):
  (Instr.sliceAt t (.slice a n c) (some (.int .i64 (k:Int))) none none).run P W= .ok (.slice (lF a c k) (n-k) (c-k)) W:=by
 have D:P.elem t=e:=(by simp [Program.elem,C]);rw [ZG W t _ _ _ _ (by rw [D];exact C)];rw [run_slice_l W t a n c (by rw [D];exact C) .i64 (k:Int) oA oA,D];have I:(sizeOf e).run P W= .ok 1 W:=by
  cases E:P.info? e with
  |none=>simp [E] at A
  |some i=>simp [E] at A;simp [sizeOf,typeInfo,E,A]
 rw [I];simp [sliced,lF]
end
section
variable {P:Program}
theorem oQ (t ty:TypeId) {e:TypeId} {bytes:Nat} (M:bC P t e 1 bytes) {w:As} {B:Nat} {C:Lt} {n D:Nat} {vs:AT} (h:Own w B e 1 C n D vs)
  {N:Lt} {m xc:Nat} {A:AT} (E:av w N A) (O:A.length=m) (hm:0<m) (S:∀u∈A,u.oneCell'=true) (L:n+m<=maxLen) (J:(n+m)*bytes<=140737488355328) (T:B<=w.heap.size):
  ∃a' c' w',(Builtin.append_ #[t,t] ty #[.slice C n D,.slice N m xc]).run P w= .ok (.slice a' (n+m) c') w'/\Own w' B e 1 a' (n+m) c' (vs++A)/\w.grownBy w' (bI C D)/\
   (bI a' c'=bI C D\/∃b,bI a' c'=some b/\w.heap.size<=b):=by
 obtain ⟨a',c',w',U,_,d,q⟩:=lO (P:=P) t ty M (Mid.of h) E O S L J T (xc:=xc);obtain ⟨r,A0,i,z,y,hz,V,Y,Z⟩:=M;obtain ⟨b,o,rfl,_⟩:=E 0 oA;have X:∀j u,A[j]? =some u->w.cell? ((⟨b,o,none⟩:Addr).add j)=some u:=fun j u hu=>by
  obtain ⟨hj,rfl⟩:=Vm.1 hu;obtain ⟨b',o',he,hc⟩:=E j hj;cases he;rw [WA];exact hc
 obtain ⟨v',w2,I,q1,_⟩:=run_append_own (P:=P) w B t ty e i z 1 bytes r y hz V Y Z oA (.slice C n D) n vs h ⟨b,o,none⟩ m xc A (by rw [O,Vr]) X S L J T;rw [U] at I;simp only [ZW] at I;obtain ⟨rfl,rfl⟩:=I;exact ⟨a',c',w',U,q1,d,q⟩
theorem iY {w:As} {o:Oper} {a:Act} {K:Act->World->Prop} {Q:Exit->Act->World->Prop} (s x:Operand) (t:TypeId) (N:o.op= .call {callee:= .builtin .append,args:= #[s,x],argTypes:= #[t,t]})
  {e:TypeId} {bytes:Nat} (O:bC P t e 1 bytes) {B:Nat} {C:Lt} {n D:Nat} {vs:AT} (S:a.eval s= .slice C n D) (h:Own w B e 1 C n D vs)
  {E:Lt} {m xc:Nat} {A:AT} (hx:a.eval x= .slice E m xc) (J:av w E A) (T:A.length=m) (U:0<m) (V:∀u∈A,u.oneCell'=true) (M:n+m<=maxLen) (I:(n+m)*bytes<=140737488355328) (X:B<=w.heap.size)
  (Y:∀a' c' w',Own w' B e 1 a' (n+m) c' (vs++A)->w.grownBy w' (bI C D)->(bI a' c'=bI C D\/∃b,bI a' c'=some b/\w.heap.size<=b)->K (a.put o.dst (.slice a' (n+m) c')) w'):o.wp P a w K Q:=by
 obtain ⟨a',c',w',L,Z,d,j⟩:=oQ (P:=P) t o.type O h J T U V M I X (xc:=xc);unfold Oper.wp;simp [execOp,N,resolve,invoke,builtin,S,hx,L,Result.andThen];exact Y a' c' w' Z d j
theorem lZ {w:As} {ops:Array Oper} {rest:List Oper} {o:Oper} {a:Act} {Q:Exit->Act->World->Prop} (L:o.guard=none) (s x:Operand) (t:TypeId) (O:o.op= .call {callee:= .builtin .append,args:= #[s,x],argTypes:= #[t,t]})
  {e:TypeId} {bytes:Nat} (S:bC P t e 1 bytes) {B:Nat} {C:Lt} {n D:Nat} {vs:AT} (T:a.eval s= .slice C n D) (h:Own w B e 1 C n D vs)
  {E:Lt} {m xc:Nat} {A:AT} (hx:a.eval x= .slice E m xc) (J:av w E A) (U:A.length=m) (V:0<m) (X:∀u∈A,u.oneCell'=true) (M:n+m<=maxLen) (I:(n+m)*bytes<=140737488355328) (Y:B<=w.heap.size)
  (Z:∀a' c' w',Own w' B e 1 a' (n+m) c' (vs++A)->w.grownBy w' (bI C D)->(bI a' c'=bI C D\/∃b,bI a' c'=some b/\w.heap.size<=b)->wpList P ops Q rest (a.put o.dst (.slice a' (n+m) c')) w'):wpList P ops Q (o::rest) a w:=
 XJ L fun _ N=>iY s x t O S T h hx J U V X M I Y fun a' c' w' d j q=>N _ _ (Z a' c' w' d j q)
end
def au (S:Nat->Prop) (W W':As):Prop:=W.heap.size<=W'.heap.size/\∀x,S x->W'.heap[x]? =W.heap[x]?
theorem au.refl (S:Nat->Prop) (W:As):au S W W:=⟨VU _,fun _ _=>rfl⟩
theorem au.trans {S:Nat->Prop} {A B C:As} (h:au S A B) (h':au S B C):au S A C:=⟨Vd h.1 h'.1,fun x hx=>(h'.2 x hx).trans (h.2 x hx)⟩
theorem au.below {S:Nat->Prop} {A B:As} {n:Nat} (h:Below n A B) (C:∀x,S x->x<n):au S A B:=⟨h.size,fun x hx=>h.block x (C x hx)⟩
theorem Own.keepAt {w w':As} {B:Nat} {e:TypeId} {size:Nat} {a:Lt} {n c:Nat} {vs:AT} (h:Own w B e size a n c vs) (E:∀x,a=some x->w'.heap[x.block]? =w.heap[x.block]?):Own w' B e size a n c vs:=by
 obtain ⟨I,A⟩:=h;refine ⟨I,?_⟩;rcases A with A|⟨g,cap,D,C,J,L,rest⟩
 .exact .inl A
 .refine .inr ⟨g,cap,D,C,J,?_,rest⟩;simp only [Vi] at C;exact (E _ C.1).trans L
theorem Own.block_lt {w:As} {B:Nat} {e:TypeId} {size:Nat} {a:Lt} {n c:Nat} {vs:AT} (h:Own w B e size a n c vs) {x:Addr} (hx:a=some x):B<=x.block/\x.block<w.heap.size/\∃C,Blk w x.block C e:=by
 obtain ⟨J,A⟩:=h;rcases A with ⟨A,_⟩|⟨g,cap,C,D,I,E,rest⟩
 .simp only [Vi] at A;rw [hx] at A;cases A.1
 .simp only [Vi] at D;rw [hx] at D;cases D.1;exact ⟨I,(VT.1 E).1,C,E⟩
structure aJ (F:Nat->Prop) (w w':As):Prop where
 os:w'.os=w.os
 tape:w'.tape=w.tape
 output:w'.output=w.output
 size:w.heap.size<=w'.heap.size
 block:∀k,k<w.heap.size->¬F k->w'.heap[k]? =w.heap[k]?
section
variable {F G:Nat->Prop} {a b c w w':As}
theorem aJ.refl (F:Nat->Prop) (w:As):aJ F w w:=⟨rfl,rfl,rfl,VU _,fun _ _ _=>rfl⟩
theorem aJ.trans (h:aJ F a b) (h':aJ G b c) (E:∀k,G k->F k\/a.heap.size<=k):aJ F a c:=
 ⟨h'.os.trans h.os,h'.tape.trans h.tape,h'.output.trans h.output,Vd h.size h'.size,fun k A C=>(h'.block k (VP A h.size) (fun I=>by
  rcases E k I with D|D
  .exact C D
  .omega)).trans (h.block k A C)⟩
theorem aJ.mono (h:aJ F a b) (A:∀k,F k->G k):aJ G a b:=⟨h.os,h.tape,h.output,h.size,fun k C D=>h.block k C fun E=>D (A k E)⟩
theorem aJ.below (h:aJ F a b) {B:Nat} (A:∀k,F k->B<=k) (C:B<=a.heap.size):Below B a b:=
 ⟨h.os,h.tape,h.output,h.size,fun k D=>h.block k (VP D C) fun E=>by have:=A k E;omega⟩
theorem aJ.of_below (h:Below a.heap.size a b):aJ F a b:=⟨h.os,h.tape,h.output,h.size,fun k A _=>h.block k A⟩
theorem aJ.of_grown {row:Option Nat} (h:a.grownBy b row) (A:∀k,row=some k->F k):aJ F a b:=
 ⟨h.os,h.tape,h.output,h.size,fun k C D=>h.block k C fun e=>D (A k e.symm)⟩
theorem aJ.alloc (h:aJ F a b) (o:Obj):aJ F a (b.alloc o):=h.trans (aJ.of_below (F:=F) ((VW _ _).alloc (VU _) o)) (fun _ A=> .inl A)
theorem aJ.drew (h:aJ F a b):aJ F a b.drew:=⟨h.os,h.tape,h.output,h.size,h.block⟩
theorem aJ.drewN (h:aJ F a b) (n:Nat):aJ F a (b.drewN n):=⟨h.os,h.tape,h.output,h.size,h.block⟩
theorem aJ.setCell (h:aJ F a b) {x:Addr} (hx:F x.block\/a.heap.size<=x.block) (v:Value):aJ F a (b.setCell x v):=
 ⟨h.os,h.tape,h.output,by simp [World.setCell];exact h.size,fun k C A=>(Vq b x k v (by
  rintro rfl;rcases hx with hx|hx
  .exact A hx
  .omega)).trans (h.block k C A)⟩
end
section
variable {w w':As}
theorem av.keepAt {a:Lt} {vs:AT} (h:av w a vs) (C:∀x,a=some x->w'.heap[x.block]? =w.heap[x.block]?):av w' a vs:=by
 intro i D;obtain ⟨b,o,A,E⟩:=h i D;exact ⟨b,o,A,(VE (a:=⟨b,o+i,none⟩) (C ⟨b,o,none⟩ A)).trans E⟩
end
end
end Go.Proofs.YtioigihakjlopaaGreat
