import Derived.WalkKit
import Derived.WalkSpells
import Derived.WalkLawsBesides
import Derived.Lib.Hide
import Derived.Deep.MidRow
import Derived.Deep.LoopGhost
import Derived.Deep.QuietTactic
import Derived.BigQuiet
import Derived.Lib.SlBytesConst
import Derived.Deep.RegionHeld3
import Derived.Laws.ResultCell
import Derived.Laws.CopyRow
import Derived.Deep.DeepCutAuto
import Derived.ProofKit
import Derived.OpenShut
import Derived.ShutString
import Derived.ChangeOld
import Derived.Deep.Matrix
import Derived.SizedLaws
namespace Go.Proofs.YtioigihakjlopaaGreat
set_option linter.unusedVariables false
set_option linter.unusedSimpArgs false
set_option maxHeartbeats 16000000
set_option maxRecDepth 100000
section
open Go.RowKit
theorem Le {α:Sort _} (e:α):∃x,x=e:=⟨e,rfl⟩
abbrev Lt:=@Nat.le_refl
abbrev AT:=@Below.refl
abbrev At:=@Nat.le_trans
abbrev VU:=@heap_setCell_other
abbrev VV:=@World.block_lt_of_cell?
abbrev VW:=@List.take_succ_eq_append_getElem
abbrev Vd:=@decide_eq_false
abbrev Vz:=@List.eq_nil_of_length_eq_zero
abbrev Vq:=@Bool.eq_false_iff
abbrev Vj:=@List.take_of_length_le
abbrev Vx:=@List.getElem?_eq_getElem
abbrev VO:=@decide_eq_true
abbrev VX:=@List.getD_eq_getElem?_getD
abbrev VY:=@List.mem_map
abbrev VZ:=@IntKind.wrap_i64
abbrev VK:=@Array.getElem?_eq_some_iff
abbrev VJ:=@World.cell?_of_block
abbrev VH:=@List.mem_singleton
abbrev VG:=@List.map_append
abbrev VF:=@Nat.lt_of_lt_of_le
abbrev VE:=@List.getElem_mem
abbrev VS:=@Nat.zero_add
abbrev VT:=@List.length_cons
abbrev VR:=@Nat.le_of_eq
abbrev VP:=@WideAt.sameKey_eq
abbrev VQ:=@List.mem_append
abbrev VN:=@Bool.and_eq_true
abbrev VM:=@List.append_assoc
abbrev VC:=@Value.slice.injEq
abbrev VD:=@IntWalk.i64_in
abbrev Ve:=@List.mem_cons
abbrev Vf:=@Ne.symm
abbrev Vg:=@List.getElem?_eq_some_iff
abbrev Vh:=@List.flatMap_cons
abbrev Vi:=@Below.heap_alloc
abbrev Vk:=@Nat.mul_one
abbrev Vl:=@Array.getElem?_setIfInBounds
abbrev Vm:=@List.getElem?_append_left
abbrev Vn:=@Option.some.injEq
abbrev Vo:=@Nat.zero_le
abbrev Vp:=@List.any_eq_true
abbrev Vr:=@Bool.true_and
abbrev Vs:=@Addr.add_mid
abbrev Vt:=@List.mem_filter
abbrev Vu:=@decide_eq_true_iff
abbrev Vv:=@World.grownBy.refl
abbrev Vw:=@run_underlying
abbrev Vy:=@Array.getElem?_eq_none
abbrev WU:=@List.getElem?_append_right
abbrev WA:=@Exit.noGoto_ret
abbrev WV:=@Bool.false_and
abbrev WW:=@List.take_append_drop
abbrev Wd:=@BitVec.eq_of_toNat_eq
abbrev Wz:=@List.getElem_map
abbrev Wq:=@List.append_nil
abbrev Wj:=@Bool.eq_iff_iff
abbrev Wx:=@results_none
abbrev WL:=@List.getElem?_eq_none
abbrev WO:=@Array.getElem?_toList
abbrev WX:=@List.mem_map_of_mem
abbrev WY:=@List.map_cons
abbrev WZ:=@Nat.mul_le_mul_right
abbrev WK:=@List.getElem?_take_of_lt
abbrev WJ:=@Int.tmod_eq_emod_of_nonneg
abbrev WH:=@Int.tdiv_eq_ediv_of_nonneg
abbrev WG:=@congrArg
abbrev WF:=@bodyPost_end
abbrev WE:=@List.map_take
abbrev WS:=@List.map_congr_left
abbrev WT:=@Result.andThen_ok
abbrev WR:=@Option.map_eq_some_iff
abbrev WP:=@Nat.add_assoc
abbrev WQ:=@run_sliceAt_array_all
abbrev WN:=@Go.setRow_other
abbrev WM:=@Int.toNat_natCast
abbrev WB:=@List.map_map
abbrev WD:=@List.getElem?_drop
abbrev We:=@BitVec.toNat_ofNat
abbrev Wf:=@List.nil_append
abbrev Wg:=@World.size_alloc
abbrev Wh:=@Nat.mod_eq_of_lt
abbrev Wi:=@Nat.mul_comm
abbrev Wk:=@List.mem_range
abbrev Wl:=@UInt8.toNat_inj
abbrev Wm:=@Sem.run_bind
abbrev Wn:=@congrFun
abbrev Wo:=@Option.some.inj
abbrev Wp:=@BitVec.toNat_ofInt
abbrev Wr:=@Array.ext_getElem?
abbrev Ws:=@Nat.add_mul
abbrev Wt:=@Nat.le_of_lt
abbrev Wu:=@List.drop_drop
abbrev Wv:=@BitVec.or_comm
abbrev Ww:=@List.flatMap_append
abbrev Wy:=@List.length_nil
abbrev XU:=@BitVec.toNat_setWidth
abbrev XA:=@List.all_eq_true
abbrev XV:=@List.getElem_range
abbrev XW:=@List.take_append_of_le_length
abbrev Xd:=@List.drop_append_of_le_length
abbrev Xz:=@of_decide_eq_true
abbrev Xq:=@decide_eq_true_eq
abbrev Xj:=@beq_iff_eq
abbrev Xx:=@List.length_set
abbrev XL:=@List.find?_cons
abbrev XO:=@wpList_plain
abbrev XX:=@Go.WideMaps.keyOf_string_mk
abbrev XY:=@Nat.mul_le_mul
abbrev XZ:=@List.find?_eq_none
abbrev XK:=@Nat.shiftRight_eq_div_pow
abbrev XJ:=@List.drop_eq_getElem_cons
abbrev XH:=@List.nodup_cons
abbrev XG:=@List.cons.injEq
abbrev XF:=@List.map_nil
abbrev XE:=@List.nodup_append
abbrev XS:=@Bool.not_eq_true'
abbrev XT:=@BitVec.ofInt_natCast
abbrev XR:=@List.getElem_of_mem
abbrev XP:=@List.flatten_append
abbrev XQ:=@ByteArray.toList_mk
abbrev XN:=@List.cons_append
abbrev XM:=@BitVec.xor_assoc
abbrev XB:=@Nat.le_succ
abbrev XC:=@setRow_other
abbrev XD:=@Nat.lt_of_le_of_lt
abbrev Xe:=@Nat.add_sub_cancel
abbrev Xf:=@Option.map_some
abbrev Xg:=@Nat.not_lt_zero
abbrev Xh:=@BitVec.toInt_lt
abbrev Xi:=@BitVec.le_toInt
abbrev Xk:=@Addr.mk.injEq
abbrev Xl:=@Below.setCell
theorem cL {p:Prop} (h:p:=by (try unfold od);repeat (first|assumption|exact Below.refl _ _|exact kB (Below.refl _ _)|exact Below.mono (by assumption) (by first|(simp;done)|(simp;omega)|omega)|refine ag ?_ (by first|(simp;done)|(simp;omega)|omega) _|refine Below.setCell ?_ (by first|(simp;done)|(simp;omega)|omega) _|refine Below.alloc ?_ (by first|(simp;done)|(simp;omega)|omega) _|refine bW ?_ _|refine Below.drew ?_|refine kB ?_|refine ae ?_ (by assumption))):p:=h
theorem lA {p:Prop} (h:p:=by first|(simp;done)|(simp;omega)|omega):p:=h
theorem oA {p:Prop} (h:p:=by omega):p:=h
theorem dcA {p:Prop} (h:p:=by decide):p:=h
theorem krA {p:Prop} (h:p:=by kernel_rfl):p:=h
theorem asA {p:Prop} (h:p:=by assumption):p:=h
theorem soA {p:Prop} (h:p:=by simp;omega):p:=h
theorem skA {p:Prop} (h:p:=by simp):p:=h
theorem mxA {p:Prop} (h:p:=by unfold maxLen;omega):p:=h
theorem dkA {p:Prop} (h:p:=by decide+kernel):p:=h
theorem wiA {p:Prop} (h:p:=by rw [IntKind.wrap_i64];omega):p:=h
theorem rfA {p:Prop} (h:p:=by rfl):p:=h
theorem gnA {p:Prop} (h:p:=by go_num):p:=h
theorem cdA {p:Prop} (h:p:=by intro c a d v w h;cases d<;>exact h):p:=h
theorem Hd {p:Prop} (h:p):Hid p:=Lib.hid h
theorem sTA {α:Type _} (l:List α) (i:Nat) (a:α):l.toArray.setIfInBounds i a=(l.set i a).toArray:=List.setIfInBounds_toArray ..
theorem laA {α:Type _} {l m:List α}:(l++m).length=l.length+m.length:=List.length_append ..
theorem lmA {α:Type _} {β:Type _} {l:List α} (f:α->β):(l.map f).length=l.length:=List.length_map ..
theorem ltA {α:Type _} {i:Nat} {l:List α}:(l.take i).length=min i l.length:=List.length_take ..
theorem ldA {α:Type _} {i:Nat} {l:List α}:(l.drop i).length=l.length-i:=List.length_drop ..
end
section
open Go.RowKit
def U8 (a:UInt8):Int:=a.toNat
def U32 (a:BitVec 32):Int:=a.toNat
def U64 (a:BitVec 64):Int:=a.toNat
theorem As (a:UInt8):0<=U8 a:=by simp [U8]
theorem xj (a:UInt8):U8 a<=255:=by have:=a.toBitVec.isLt;simp only [U8];have h:a.toNat<256:=this;omega
theorem Mg {a b:UInt8}:U8 a=U8 b↔a=b:=by
 simp only [U8];constructor
 .intro h;exact Wl.1 (by exact_mod_cast h)
 .rintro rfl;rfl
theorem JJ {a b:BitVec 32}:U32 a=U32 b↔a=b:=by
 simp only [U32];constructor
 .intro h;exact Wd (by exact_mod_cast h)
 .rintro rfl;rfl
theorem Dp (a b:UInt8):(U8 a==U8 b)=(a==b):=by
 rw [Wj];simp [Mg]
theorem JK (a b:BitVec 32):(U32 a==U32 b)=(a==b):=by
 rw [Wj];simp [JJ]
theorem yf (a:UInt8):BitVec.ofInt 8 (U8 a)=a.toBitVec:=by
 have:U8 a=(a.toBitVec.toNat:Int):=rfl;rw [this];simp
theorem gh (a:BitVec 32):BitVec.ofInt 32 (U32 a)=a:=by simp [U32]
theorem gJ (a:UInt8):BitVec.ofInt 32 (U8 a)=a.toBitVec.setWidth 32:=by
 apply Wd;have h:a.toNat<256:=a.toBitVec.isLt;have e:a.toBitVec.toNat=a.toNat:=rfl;simp only [U8,Wp,XU,e];omega
theorem GX (a:BitVec 8):IntKind.u8.wrap (a.toNat:Int)=U8 ⟨a⟩:=by
 rw [IntWalk.u8_in];rfl;have:=a.isLt;omega
theorem rX (a:BitVec 32):IntKind.u32.wrap (a.toNat:Int)=U32 a:=by
 rw [IntWalk.u32_in];rfl;have:=a.isLt;omega
theorem xu (a:BitVec 64):IntKind.u64.wrap (a.toNat:Int)=U64 a:=by
 rw [IntWalk.u64_in];rfl;have:=a.isLt;omega
theorem lN (x y:Int):bits .xor .u8 x y=U8 ⟨BitVec.ofInt 8 x^^^BitVec.ofInt 8 y⟩:=GX _
theorem gX (x y:Int):bits .xor .u32 x y=U32 (BitVec.ofInt 32 x^^^BitVec.ofInt 32 y):=rX _
theorem gY (x y:Int):bits .and .u32 x y=U32 (BitVec.ofInt 32 x&&&BitVec.ofInt 32 y):=rX _
theorem iK (x y:Int):bits .or .u32 x y=U32 (BitVec.ofInt 32 x|||BitVec.ofInt 32 y):=rX _
theorem vh (x y:Int):bits .and .u64 x y=U64 (BitVec.ofInt 64 x&&&BitVec.ofInt 64 y):=xu _
theorem wZ (x y:Int):bits .or .u64 x y=U64 (BitVec.ofInt 64 x|||BitVec.ofInt 64 y):=xu _
theorem pN (a:BitVec 32):BitVec.ofInt 32 IntKind.u32.max^^^a= ~~~a:=by
 have:BitVec.ofInt 32 IntKind.u32.max=BitVec.allOnes 32:=dcA;rw [this,BitVec.allOnes_xor]
theorem nx (a:BitVec 32) (k:Nat):U32 a/((2^k:Nat):Int)=U32 (a>>>k):=by
 simp [U32,XK]
theorem jK (a:BitVec 32) (k:Nat):U32 a/(2:Int)^k=U32 (a>>>k):=by
 rw [<-nx];norm_cast
theorem xk (a:BitVec 64) (k:Nat):U64 a/(2:Int)^k=U64 (a>>>k):=by
 simp only [U64,BitVec.toNat_ushiftRight,XK];norm_cast
theorem JI (a:BitVec 32): -U32 a%4294967296=U32 (-a):=by
 have:=a.isLt;simp only [U32,BitVec.toNat_neg];omega
theorem tF (a:BitVec 32) (k:Nat):U32 a*((2^k:Nat):Int)%4294967296=U32 (a<<<k):=by
 simp only [U32,BitVec.toNat_shiftLeft,Nat.shiftLeft_eq];simp
theorem mH (a:BitVec 32):U32 a%256=U8 ⟨a.setWidth 8⟩:=by
 show ((a.toNat:Int))%256=((a.setWidth 8).toNat:Int);simp only [XU];simp
theorem FH (a:BitVec 64):U64 a%256=U8 ⟨a.setWidth 8⟩:=by
 show ((a.toNat:Int))%256=((a.setWidth 8).toNat:Int);simp only [XU];simp
def bv (c:UInt8):Value:= .int .u8 (U8 c)
theorem su (w:World) (a:Addr) (u v:Value):(w.setCell a u).setCell a v=w.setCell a v:=by
 unfold World.setCell;simp only [World.mk.injEq,and_true];apply Wr;intro i;simp only [Array.getElem?_modify];split
 .cases w.heap[i]? with
  |none=>rfl
  |some o=>cases o<;>simp;split<;>simp
 .rfl
def aw (w:World) (a:Option Addr) (vs:List Value):Prop:=
 ∀i (h:i<vs.length),∃b o,a=some ⟨b,o,none⟩/\w.cell? ⟨b,o+i,none⟩=some vs[i]
theorem aw.nil (w:World) (a:Option Addr):aw w a []:=fun i h=>by simp at h
theorem aw.at {w:World} {a:Option Addr} {vs:List Value} (h:aw w a vs) (hne:0<vs.length):
  ∃b o,a=some ⟨b,o,none⟩/\∀i (hi:i<vs.length),w.cell? ⟨b,o+i,none⟩=some vs[i]:=by
 obtain ⟨b,o,rfl,_⟩:=h 0 hne;refine ⟨b,o,rfl,fun i hi=> ?_⟩;obtain ⟨b',o',e,hc⟩:=h i hi;simp only [Vn,Xk] at e;obtain ⟨rfl,rfl,-⟩:=e;exact hc
theorem aw.mk {w:World} {b o:Nat} {vs:List Value} (h:∀i (hi:i<vs.length),w.cell? ⟨b,o+i,none⟩=some vs[i]):
  aw w (some ⟨b,o,none⟩) vs:=fun i hi=>⟨b,o,rfl,h i hi⟩
theorem aw.lt {w:World} {b o:Nat} {vs:List Value} (h:aw w (some ⟨b,o,none⟩) vs) (hne:0<vs.length):b<w.heap.size:=by
 obtain ⟨b',o',e,hc⟩:=h 0 hne;simp only [Vn,Xk] at e;obtain ⟨rfl,rfl,-⟩:=e;exact VV w _ hc
theorem aw.below {w w':World} {a:Option Addr} {vs:List Value} (h:aw w a vs) (hb:Below w.heap.size w w'):aw w' a vs:=by
 intro i hi;obtain ⟨b,o,e,hc⟩:=h i hi;exact ⟨b,o,e,by rw [hb.cell (VV w _ hc)];exact hc⟩
theorem aw.alloc {w:World} {a:Option Addr} {vs:List Value} (h:aw w a vs) (o:Obj):aw (w.alloc o) a vs:=h.below ((AT _ _).alloc (Lt _) o)
theorem aw.drew {w:World} {a:Option Addr} {vs:List Value} (h:aw w a vs):aw w.drew a vs:=h
theorem aw.drewN {w:World} {a:Option Addr} {vs:List Value} (h:aw w a vs) (n:Nat):aw (w.drewN n) a vs:=h
theorem bW {B:Nat} {w0 w:World} (h:Below B w0 w) (n:Nat):Below B w0 (w.drewN n):=⟨h.os,h.tape,h.output,h.size,h.block⟩
theorem kB {B:Nat} {w0 w:World} (h:Below B w0 w):Below B w0.drew w:=⟨h.os,h.tape,h.output,h.size,h.block⟩
theorem aw.drop {w:World} {b o:Nat} {vs:List Value} (k:Nat) (h:aw w (some ⟨b,o,none⟩) vs):aw w (some ⟨b,o+k,none⟩) (vs.drop k):=by
 refine aw.mk fun i hi=> ?_;rw [ldA] at hi;obtain ⟨b',o',e,hc⟩:=h (k+i) oA;simp only [Vn,Xk] at e;obtain ⟨rfl,rfl,-⟩:=e;rw [WP];simpa using hc
theorem aw.take {w:World} {a:Option Addr} {vs:List Value} (k:Nat) (h:aw w a vs):aw w a (vs.take k):=by
 intro i hi;rw [ltA] at hi;obtain ⟨b,o,e,hc⟩:=h i oA;exact ⟨b,o,e,by simpa using hc⟩
def ah (w:World) (a:Option Addr) (l:List UInt8):Prop:=aw w a (l.map bv)
theorem ah.at {w:World} {a:Option Addr} {l:List UInt8} (h:ah w a l) (hne:0<l.length):
  ∃b o,a=some ⟨b,o,none⟩/\∀i (hi:i<l.length),w.cell? ⟨b,o+i,none⟩=some (.int .u8 (U8 l[i])):=by
 obtain ⟨b,o,e,hc⟩:=aw.at h (by simpa using hne);refine ⟨b,o,e,fun i hi=> ?_⟩;have:=hc i (by simpa using hi);simpa [bv] using this
theorem ah.alloc {w:World} {a:Option Addr} {l:List UInt8} (h:ah w a l) (o:Obj):ah (w.alloc o) a l:=aw.alloc h o
theorem ah.drew {w:World} {a:Option Addr} {l:List UInt8} (h:ah w a l):ah w.drew a l:=h
theorem ah.below {w w':World} {a:Option Addr} {l:List UInt8} (h:ah w a l) (hb:Below w.heap.size w w'):ah w' a l:=aw.below h hb
theorem ae {w0 w1 w2:World} (h1:Below w0.heap.size w0 w1) (h2:Below w1.heap.size w1 w2):Below w0.heap.size w0 w2:=h1.trans (h2.mono h1.size)
section
variable {P:Program}
theorem en {t e:TypeId} {n:Nat} (ht:P.underlying t=some (.array n e)) {d:TypeDesc} (he:P.underlying e=some d) (hd:d.isRow=false)
  (hsz:(P.info? e).map (·.size)=some 1) {kk:IntKind} (w:World) (cs:Array Value) (k:Nat) (v:Value) (hk:cs[k]? =some v) (hn:k<n):
  (Instr.index t (.agg cs) (.int kk (k:Int))).run P w= .ok v w:=by
 have hagg:(isAgg e).run P w= .ok false w:=by
  unfold isAgg;rw [Wm,Vw he w];cases d<;>simp_all [TypeDesc.isRow]
 cases hq:P.info? e with
 |none=>simp [hq] at hsz
 |some i=>
  have hs:i.size=1:=(by simpa [hq] using hsz);simp [Instr.index,asIntOf,Wm,Vw ht,hn,sizeOf,typeInfo,hq,hs,part,hagg,hk]
end
def Blk (w:World) (b:Nat) (cs:Array Value) (t:TypeId):Prop:=w.heap[b]? =some (.cells cs t (0,0))
section
variable {w w':World} {b:Nat} {cs:Array Value} {t:TypeId}
theorem Blk.lt (h:Blk w b cs t):b<w.heap.size:=(VK.1 h).1
theorem Blk.new (w:World) (cs:Array Value) (t:TypeId):Blk (w.alloc (.cells cs t)) w.heap.size cs t:=heap_alloc_new w _
theorem Blk.new2 (w:World) (cs:Array Value) (t:TypeId) (o:Obj):Blk ((w.alloc (.cells cs t)).alloc o) w.heap.size cs t:=heap_alloc2_old w _ _
theorem Blk.new2' (w:World) (cs:Array Value) (t:TypeId) (o:Obj):Blk ((w.alloc o).alloc (.cells cs t)) (w.heap.size+1) cs t:=heap_alloc2_new w _ _
theorem Blk.new3 (w:World) (cs:Array Value) (t:TypeId) (o p:Obj):Blk (((w.alloc (.cells cs t)).alloc o).alloc p) w.heap.size cs t:=(Vi _ p _ (Blk.new2 w cs t o|>fun h=>(VK.1 h).1)).trans (Blk.new2 w cs t o)
theorem Blk.new3' (w:World) (cs:Array Value) (t:TypeId) (o p:Obj):Blk (((w.alloc o).alloc (.cells cs t)).alloc p) (w.heap.size+1) cs t:=(Vi _ p _ (Blk.new2' w cs t o|>fun h=>(VK.1 h).1)).trans (Blk.new2' w cs t o)
theorem Blk.new3'' (w:World) (cs:Array Value) (t:TypeId) (o p:Obj):Blk (((w.alloc o).alloc p).alloc (.cells cs t)) (w.heap.size+2) cs t:=by
 have:=Blk.new ((w.alloc o).alloc p) cs t;have e:((w.alloc o).alloc p).heap.size=w.heap.size+2:=skA;rwa [e] at this
theorem Blk.alloc (h:Blk w b cs t) (o:Obj):Blk (w.alloc o) b cs t:=(Vi w o b h.lt).trans h
theorem Blk.drew (h:Blk w b cs t):Blk w.drew b cs t:=h
theorem Blk.below (h:Blk w b cs t) {B:Nat} (hb:Below B w w') (hB:b<B):Blk w' b cs t:=(hb.block b hB).trans h
theorem Blk.old (h:Blk w b cs t) (hb:Below w.heap.size w w'):Blk w' b cs t:=(hb.block b h.lt).trans h
theorem Blk.cell (h:Blk w b cs t) {i:Nat} {v:Value} (hv:cs[i]? =some v):w.cell? ⟨b,i,none⟩=some v:=by
 rw [cell_of_row w b i cs t (0,0) h];exact hv
theorem Blk.free (h:Blk w b cs t) (i:Nat):w.frozen? ⟨b,i,none⟩=false:=frozen_of_row w b i cs t h
theorem Blk.set (h:Blk w b cs t) (i:Nat) (v:Value):Blk (w.setCell ⟨b,i,none⟩ v) b (cs.setIfInBounds i v) t:=heap_setCell_same w b i cs t v h
theorem Blk.other (h:Blk w b cs t) (a:Addr) (v:Value) (hne:b≠a.block):Blk (w.setCell a v) b cs t:=(VU w a b v hne).trans h
theorem Blk.setRow (h:Blk w b cs t) (cs':Array Value):Blk (w.setRow b cs') b cs' t:=setRow_heap w b cs cs' t _ h
theorem Blk.setRow_other (h:Blk w b cs t) (g:Nat) (cs':Array Value) (hne:b≠g):Blk (w.setRow g cs') b cs t:=(WN w g b cs' hne).trans h
theorem Blk.setRow_self (h:Blk w b cs t):w.setRow b cs=w:=Go.setRow_self w b cs t _ h
theorem ag {B g:Nat} {w0 w:World} (hb:Below B w0 w) (hBg:B<=g) (cs:Array Value):Below B w0 (w.setRow g cs):=
 hb.trans ⟨rfl,rfl,rfl,by simp [World.setRow],fun k hk=>WN w g k cs oA⟩
end
def GI:TypeDesc->Bool
 | .struct _| .array _ _=>true
 |_=>false
def lR (P:Program) (ty:TypeId) (n:Nat):Prop:=(∃d,P.underlying ty=some d/\GI d=true)/\(P.info? ty).map (·.size)=some n
section
variable {P:Program}
theorem am {ops:Array Oper} {rest:List Oper} {o:Oper} {a:Act} {w:World} {Q:Exit->Act->World->Prop} (hgd:o.guard=none) (ty:TypeId) {n:Nat} (hT:lR P ty n) (x:Operand) (ho:o.op= .load ty x)
  {g:Nat} (hx:a.eval x= .pointer (some ⟨g,0,none⟩)) {t:TypeId} {cs:Array Value} (hB:Blk w g cs t) (hn:cs.size=n)
  (h:wpList P ops Q rest (a.put o.dst (.agg cs)) w):wpList P ops Q (o::rest) a w:=by
 obtain ⟨⟨d,hu,hd⟩,hi⟩:=hT;exact wpList_load_row hgd ty x ho g hx t cs (0,0) d hB hu (by cases d<;>simp_all [GI]) (by rw [hi,hn]) h
theorem aa {ops:Array Oper} {rest:List Oper} {o:Oper} {a:Act} {w:World} {Q:Exit->Act->World->Prop} (hgd:o.guard=none) (ty:TypeId) {n:Nat} (hT:lR P ty n) (x y:Operand) (ho:o.op= .store ty x y)
  {g:Nat} {cells:Array Value} (hx:a.eval x= .pointer (some ⟨g,0,none⟩)) (hy:a.eval y= .agg cells) {t:TypeId} {old:Array Value} (hB:Blk w g old t) (hn:cells.size=n) (ho':old.size=n) (h1:cells.toList.all (·.oneCell')=true)
  (h:wpList P ops Q rest (a.put o.dst undef) (w.setRow g cells)):wpList P ops Q (o::rest) a w:=
 wpList_store_row hgd ty x y ho g cells hx hy t old hB (by rw [hT.2,hn]) (by rw [hn,ho']) (by rw [Array.all_toList] at h1;exact h1) h
theorem aU {fn:Func} {R:Ending->World->Prop} {a:Act} {w:World} {p u:Tmp} {ty:TypeId} (hf:fn.results= #[.cell p ty,.tmp u]) {n:Nat} (hT:lR P ty n) {g:Nat} {t:TypeId} {cs:Array Value}
  (hp:a.tmps.getD p undef= .pointer (some ⟨g,0,none⟩)) (hB:Blk w g cs t) (hn:cs.size=n) {v:Value} (hu':a.tmps.getD u undef=v) (hd:a.defers=[]) (hR:R (.returned (.tuple #[.agg cs,v])) w):bodyPost P fn R .ret a w:=by
 obtain ⟨⟨d,hu,hd'⟩,hi⟩:=hT;refine ⟨hd,.tuple #[.agg cs,v],?_,hR⟩;rw [results_cell_tmp hf,hp,hu'];simp [asAddr,Result.andThen,run_loadVar_row w g t ty cs (0,0) d hB hu (by cases d<;>simp_all [GI]) (by rw [hi,hn])]
theorem cv {fn:Func} {R:Ending->World->Prop} {a:Act} {w:World} {p:Tmp} {ty:TypeId} (hf:fn.results= #[.cell p ty]) {n:Nat} (hT:lR P ty n) {g:Nat} {t:TypeId} {cs:Array Value}
  (hp:a.tmps.getD p undef= .pointer (some ⟨g,0,none⟩)) (hB:Blk w g cs t) (hn:cs.size=n) (hd:a.defers=[]) (hR:R (.returned (.agg cs)) w):bodyPost P fn R .ret a w:=by
 obtain ⟨⟨d,hu,hd'⟩,hi⟩:=hT;exact ⟨hd,_,results_cell_row hf _ _ _ _ _ _ _ hp hB hu (by cases d<;>simp_all [GI]) (by rw [hi,hn]),hR⟩
end
theorem eC {P:Program} {ops:Array Oper} {rest:List Oper} {o:Oper} {a:Act} {w:World} {Q:Exit->Act->World->Prop} (hgd:o.guard=none) (ty:TypeId) {n:Nat} (hT:lR P ty n) (x:Operand) (ho:o.op= .load ty x)
  {b o':Nat} (hx:a.eval x= .pointer (some ⟨b,o',none⟩)) {cs:List Value} {v:Value} (hv:v= .agg cs.toArray) (hc:∀j (h:j<cs.length),w.cell? ⟨b,o'+j,none⟩=some cs[j]) (hn:cs.length=n)
  (h:wpList P ops Q rest (a.put o.dst v) w):wpList P ops Q (o::rest) a w:=by
 obtain ⟨⟨d,hu,hd⟩,hi⟩:=hT;subst hv;refine XO hgd fun K hK=> ?_;have hl:(loadCells ⟨b,o',none⟩ cs.length).run P w= .ok cs.toArray w:=
  run_loadCells_list (P:=P) w ⟨b,o',none⟩ cs (fun j v hv=>by
   obtain ⟨hj,rfl⟩:=Vg.1 hv;rw [Vs];exact hc j hj)
 have hr:(loadVar ty ⟨b,o',none⟩).run P w= .ok (.agg cs.toArray) w:=by
  cases hq:P.info? ty with
  |none=>simp [hq] at hi
  |some i=>
   have hs:i.size=cs.length:=(by simp [hq] at hi;omega);cases d<;>simp [GI] at hd<;>simp [loadVar,Wm,Vw hu,sizeOf,typeInfo,hq,hs,hl,isAgg]
 unfold Oper.wp execOp;simp only [ho,hx,Instr.loadAt,Instr.sureAddr,Wm,Sem.run_pure,WT,hr];exact hK _ _ h
theorem dw {P:Program} {w:World} {ty:TypeId} {n:Nat} (hT:lR P ty n) {b o':Nat} {cs:List Value} (hc:∀j (h:j<cs.length),w.cell? ⟨b,o'+j,none⟩=some cs[j]) (hn:cs.length=n):(loadVar ty ⟨b,o',none⟩).run P w= .ok (.agg cs.toArray) w:=by
 obtain ⟨⟨d,hu,hd⟩,hi⟩:=hT;have hl:(loadCells ⟨b,o',none⟩ cs.length).run P w= .ok cs.toArray w:=
  run_loadCells_list (P:=P) w ⟨b,o',none⟩ cs (fun j v hv=>by
   obtain ⟨hj,rfl⟩:=Vg.1 hv;rw [Vs];exact hc j hj)
 cases hq:P.info? ty with
 |none=>simp [hq] at hi
 |some i=>
  have hs:i.size=cs.length:=(by simp [hq] at hi;omega);cases d<;>simp [GI] at hd<;>simp [loadVar,Wm,Vw hu,sizeOf,typeInfo,hq,hs,hl,isAgg]
theorem aI {P:Program} {w:World} {o:Oper} {f:Operand->Value} (ty:TypeId) {n:Nat} (hT:lR P ty n) (x:Operand) (ho:o.op= .load ty x)
  {b o':Nat} (hx:f x= .pointer (some ⟨b,o',none⟩)) {cs:List Value} {v:Value} (hv:v= .agg cs.toArray) (hc:∀j (h:j<cs.length),w.cell? ⟨b,o'+j,none⟩=some cs[j]) (hn:cs.length=n):
  (execOp f o).run P w= .ok (.value v) w:=by
 subst hv;unfold execOp;simp only [ho,hx,Instr.loadAt,Instr.sureAddr,Wm,Sem.run_pure,WT,dw hT hc hn]
theorem tp {P:Program} {w:World} {o:Oper} {f:Operand->Value} (op:BinOp) (t:TypeId) (x y:Operand) {t':TypeId} (ho:o.op= .binOp op t x y t') {xs ys:Array Value} (hx:f x= .agg xs) (hy:f y= .agg ys) (hm:P.eqGuardType P.depth t=false)
  {v:Value} (hb:(binOp op t (.agg xs) (.agg ys)).run P w= .ok v w):(execOp f o).run P w= .ok (.value v) w:=by
 unfold execOp;simp only [ho,hx,hy,Wm,run_eqGuard_agg w op t x y xs ys hm,WT,hb,Sem.run_pure]
theorem aw.elem {α:Type} {g:α->List Value} {sz:Nat} (hg:∀y,(g y).length=sz) {w:World} {a:Option Addr} {l:List α} (h:aw w a (l.flatMap g)) (hp:0<sz) (k:Nat) (hk:k<l.length):
  ∃b o,a=some ⟨b,o,none⟩/\b<w.heap.size/\∀j (hj:j<(g l[k]).length),w.cell? ⟨b,o+k*sz+j,none⟩=some (g l[k])[j]:=by
 have hlen:∀l:List α,(l.flatMap g).length=l.length*sz:=fun l=>by
  induction l with
  |nil=>simp
  |cons y l ih=>rw [Vh,laA,hg,ih,VT,Ws];omega
 have get:∀(l:List α) (i r:Nat),r<sz->(h:i<l.length)->(l.flatMap g)[i*sz+r]? =(g l[i])[r]? :=by
  intro l
  induction l with
  |nil=>intro i r _ h;simp at h
  |cons y l ih=>
   intro i r hr h;cases i with
   |zero=>rw [Vh,Nat.zero_mul,VS,Vm (by rw [hg];exact hr)];rfl
   |succ i=>
    rw [Vh,WU (by rw [hg,Ws];omega),hg];have:(i+1)*sz+r-sz=i*sz+r:=(by rw [Ws];omega);rw [this,ih i r hr (by simpa using h)];rfl
 have hpos:0<(l.flatMap g).length:=(by rw [hlen];exact Nat.mul_pos oA hp);obtain ⟨b,o,rfl,hc⟩:=h.at hpos;refine ⟨b,o,rfl,h.lt hpos,fun j hj=> ?_⟩;have hj':j<sz:=(by rw [<-hg l[k]];exact hj);have hlt:k*sz+j<(l.flatMap g).length:=by
  rw [hlen];have:(k+1)*sz<=l.length*sz:=WZ _ hk;rw [Ws] at this;omega
 have h1:=hc (k*sz+j) hlt;have h2:=get l k j hj' hk;rw [Vx hlt,Vx hj] at h2;rw [WP,h1,Wo h2]
def bu (P:Program) (t e:TypeId) (size bytes:Nat):Prop:=
 P.underlying t=some (.slice e)/\0<size/\∃i z,P.info? e=some i/\i.zero=some z/\i.size=size/\i.bytes=bytes/\z.cells.size=size
theorem bu.mk {P:Program} {t e:TypeId} {z:Value} {size bytes:Nat} (h1:P.underlying t=some (.slice e)) (h2:(P.info? e).map (fun i=>(i.zero,i.size,i.bytes))=some (some z,size,bytes))
  (h3:z.cells.size=size) (h4:0<size):bu P t e size bytes:=by
 obtain ⟨i,hi,hz,hs,hb⟩:=info_parts h2;exact ⟨h1,h4,i,z,hi,hz,hs,hb,h3⟩
def Own (w:World) (B:Nat) (e:TypeId) (size:Nat) (a:Option Addr) (n c:Nat) (vs:List Value):Prop:=w.ownsRow B e size (.slice a n c) n vs
section
variable {w w':World} {B:Nat} {e:TypeId} {size:Nat} {a:Option Addr} {n c:Nat} {vs:List Value}
theorem Own.row (h:Own w B e size a n c vs):aw w a vs:=by
 intro i hi;rcases h.2 with ⟨hv,hn⟩|⟨g,cap,cur,hv,_⟩
 .have:=h.1;subst hn;simp only [Nat.zero_mul] at this;omega
 .simp only [VC] at hv;obtain ⟨rfl,-,-⟩:=hv;have:=World.ownsRow.cells h (g:=g) rfl i vs[i] (Vx hi);rw [Vs] at this;exact ⟨g,0,rfl,this⟩
theorem Own.length (h:Own w B e size a n c vs):vs.length=n*size:=h.1
theorem Own.nil (w:World) (B:Nat) (e:TypeId) (size:Nat):Own w B e size none 0 0 []:=World.ownsRow_nil w B e size
theorem Own.lower {B':Nat} (h:Own w B e size a n c vs) (hB:B'<=B):Own w B' e size a n c vs:=by
 refine ⟨h.1,?_⟩;rcases h.2 with h2|⟨g,cap,cur,h1,h2,h3⟩
 .exact .inl h2
 .exact .inr ⟨g,cap,cur,h1,At hB h2,h3⟩
theorem Own.old (h:Own w B e size a n c vs) (hb:Below w.heap.size w w'):Own w' B e size a n c vs:=
 World.ownsRow.kept (row:=none) h ⟨hb.os,hb.tape,hb.output,hb.size,fun k hk _=>hb.block k hk⟩ (by cases hv:(Value.slice a n c).ownBlock<;>simp)
theorem Own.drew (h:Own w B e size a n c vs):Own w.drew B e size a n c vs:=h
theorem Own.alloc (h:Own w B e size a n c vs) (o:Obj):Own (w.alloc o) B e size a n c vs:=World.ownsRow.alloc h o
theorem Own.le (h:Own w B e size a n c vs):n<=c:=by
 rcases h.2 with ⟨hv,hn⟩|⟨g,cap,cur,hv,_,_,hle,_⟩
 .simp only [VC] at hv;omega
 .simp only [VC] at hv;omega
theorem Own.le_max (h:Own w B e size a n c vs):n<=maxLen:=by
 rcases h.2 with ⟨hv,hn⟩|⟨g,cap,cur,hv,_,_,hle,hm,_⟩
 .omega
 .omega
theorem Own.grown (h:Own w B e size a n c vs) {w0:World} {B0:Nat} (hb:Below B0 w0 w) (hB:B0<=B) (hg:w.grownBy w' (Value.slice a n c).ownBlock) (hz:B0<=w.heap.size):Below B0 w0 w':=
 hb.grown hg hz (fun k hk=>At hB (World.ownsRow.lt h k hk).1)
theorem Blk.grown {b:Nat} {cs:Array Value} {t:TypeId} (h:Blk w b cs t) {row:Option Nat} (hg:w.grownBy w' row) (hne:row≠some b):Blk w' b cs t:=
 (hg.block b h.lt (fun e=>hne e.symm)).trans h
theorem aw.grown {b o:Nat} {us:List Value} (h:aw w (some ⟨b,o,none⟩) us) {row:Option Nat} (hg:w.grownBy w' row) (hne:row≠some b):aw w' (some ⟨b,o,none⟩) us:=by
 intro i hi;obtain ⟨b',o',e,hc⟩:=h i hi;have e':=e;simp only [Vn,Xk] at e';obtain ⟨rfl,rfl,-⟩:=e';exact ⟨b,o,rfl,hg.cell hc (fun e=>hne e.symm)⟩
end
theorem Own.blk {w:World} {B:Nat} {e:TypeId} {size:Nat} {a:Option Addr} {n c:Nat} {vs:List Value} (h:Own w B e size a n c vs) (hn:0<n):
  ∃g cur,a=some ⟨g,0,none⟩/\B<=g/\Blk w g cur e/\cur.toList.take (n*size)=vs/\cur.size=c*size:=by
 rcases h.2 with ⟨_,h0⟩|⟨g,cap,cur,hv,hB,hg,_,_,hs,ht⟩
 .omega
 .simp only [VC] at hv;obtain ⟨rfl,-,rfl⟩:=hv;exact ⟨g,cur,rfl,hB,hg,ht,hs⟩
section
variable {w:World} {B:Nat} {e:TypeId} {g n c:Nat} {vs:List Value}
theorem Own.at (h:Own w B e 1 (some ⟨g,0,none⟩) n c vs) (hn:0<n):B<=g/\∃cur,Blk w g cur e/\cur.toList.take n=vs/\cur.size=c/\n<=c:=by
 obtain ⟨g',cur,e1,hB,hb,ht,hs⟩:=h.blk hn;cases e1;exact ⟨hB,cur,hb,by simpa using ht,by simpa using hs,h.le⟩
theorem Own.cell (h:Own w B e 1 (some ⟨g,0,none⟩) n c vs) (i:Nat) (hi:i<vs.length):w.cell? ⟨g,i,none⟩=some vs[i]:=by
 obtain ⟨b,o,e1,hc⟩:=h.row i hi;cases e1;rw [VS] at hc;exact hc
theorem Own.set (h:Own w B e 1 (some ⟨g,0,none⟩) n c vs) (i:Nat) (hi:i<n) (v:Value):Own (w.setCell ⟨g,i,none⟩ v) B e 1 (some ⟨g,0,none⟩) n c (vs.set i v):=by
 obtain ⟨hB,cur,hb,ht,hs,hle⟩:=h.at oA;refine ⟨by rw [Xx];exact h.1,.inr ⟨g,c,cur.setIfInBounds i v,rfl,hB,hb.set i v,hle,?_,by simp [hs],?_⟩⟩
 .rcases h.2 with ⟨_,h0⟩|⟨_,_,_,hv,_,_,_,hm,_⟩
  .omega
  .simp only [VC] at hv;omega
 .rw [<-ht];simp [List.take_set]
end
theorem kq {P:Program} {w:World} (base:Nat) (t ty e:TypeId) (i:TypeInfo) (size:Nat) (ht:P.underlying t=some (.slice e)) (hi:P.info? e=some i)
  (v:Value) (n c:Nat) (xs:List Value) (hown:w.ownsRow base e size v n xs):
  (Builtin.append_ #[t,t] ty #[v,.slice none 0 c]).run P w= .ok v w:=by
 rcases hown.2 with ⟨rfl,rfl⟩|⟨g,cap,cur,rfl,_,_,hnc,_⟩
 .simp [Builtin.append_,Vw ht,sizeOf,typeInfo,hi,Builtin.lenOf,Builtin.firstCells]
 .simp [Builtin.append_,Vw ht,sizeOf,typeInfo,hi,Builtin.lenOf,Builtin.firstCells,hnc,storeCells]
theorem al {P:Program} {w:World} {ops:Array Oper} {rest:List Oper} {o:Oper} {a:Act} {Q:Exit->Act->World->Prop} (hgd:o.guard=none) (s x:Operand) (t:TypeId)
  (ho:o.op= .call {callee:= .builtin .append,args:= #[s,x],argTypes:= #[t,t]}) {e:TypeId} {size bytes:Nat} (hT:bu P t e size bytes)
  {B:Nat} {sa:Option Addr} {n sc:Nat} {xs:List Value} (hs:a.eval s= .slice sa n sc) (hown:Own w B e size sa n sc xs)
  {xa:Option Addr} {m xc:Nat} {news:List Value} (hx:a.eval x= .slice xa m xc) (hrow:aw w xa news) (hl:news.length=m*size) (h1:∀u∈news,u.oneCell'=true)
  (h63:n+m<=maxLen) (hbytes:(n+m)*bytes<=140737488355328) (hbase:B<=w.heap.size)
  (h:∀a' c' w',Own w' B e size a' (n+m) c' (xs++news)->w.grownBy w' (Value.slice sa n sc).ownBlock->wpList P ops Q rest (a.put o.dst (.slice a' (n+m) c')) w'):
  wpList P ops Q (o::rest) a w:=by
 obtain ⟨ht,hsz,i,z,hi,hz,hsize,hby,hzs⟩:=hT;have form:∀(v':Value) (w':World),w'.ownsRow B e size v' (n+m) (xs++news)->∃a' c',v'= .slice a' (n+m) c':=by
  intro v' w' h';rcases h'.2 with ⟨rfl,hn⟩|⟨g,cap,cur,rfl,_⟩
  .exact ⟨none,0,by rw [hn]⟩
  .exact ⟨_,_,rfl⟩
 match xa,hx,hrow with
 |none,hx,hrow=>
  have hn0:news=[]:=by
   cases news with
   |nil=>rfl
   |cons u r=>obtain ⟨b,o,he,_⟩:=hrow 0 skA;cases he
  subst hn0;have hm:m=0:=by
   simp only [Wy] at hl;rcases Nat.mul_eq_zero.1 hl.symm with h|h
   .exact h
   .omega
  subst hm;refine XO hgd fun K hK=> ?_;have hrun:=kq (P:=P) (w:=w) B t o.type e i size ht hi (.slice sa n sc) n xc xs hown;unfold Oper.wp;simp [execOp,ho,resolve,invoke,builtin,hs,hx,hrun,Result.andThen];exact hK _ _ (by simpa using h sa sc w (by simpa using hown) (Vv _ _))
 |some ad,hx,hrow=>
  refine wpList_append_own w hgd s x t ho B e i z size bytes ht hi hz hsize hby hzs hsz (.slice sa n sc) n xs hs hown ad m xc news hx hl ?_ h1 h63 hbytes hbase ?_
  .intro j u hu;have hj:j<news.length:=(Vg.1 hu).1;obtain ⟨b,o,he,hc⟩:=hrow j hj;obtain rfl:=Wo he;rw [Vs,hc,<-hu,Vx hj]
  .intro v' w' hown' hg _;obtain ⟨a',c',rfl⟩:=form v' w' hown';exact h a' c' w' hown' hg
theorem Own.lit {w:World} {B:Nat} {e:TypeId} (cs:Array Value) (vs:List Value) (n:Nat) (hcs:cs.toList=vs) (hn:vs.length=n) (hb:B<=w.heap.size) (hm:n<=maxLen):
  Own (w.alloc (.cells cs e)) B e 1 (some ⟨w.heap.size,0,none⟩) n n vs:=by
 subst hcs;exact World.ownsRow_lit w cs n hb hm (by rw [<-hn];simp)
theorem dg (l:List Value) (h:l.all (·.oneCell')=true):∀u∈l,u.oneCell'=true:=XA.1 h
theorem cO (l:List UInt8):∀u∈l.map bv,u.oneCell'=true:=by
 intro u hu;obtain ⟨_,_,rfl⟩:=VY.1 hu;rfl
theorem af {P:Program} {c:Code} {Q:Exit->Act->World->Prop} {a:Act} {W:World} (F:World->Prop) (hF:F W) (h:∀W0,F W0->c.wp P Q a W0):c.wp P Q a W:=h W hF
theorem Own.cap_le {w:World} {B:Nat} {e:TypeId} {size:Nat} {a:Option Addr} {n c:Nat} {vs:List Value} (h:Own w B e size a n c vs):c<=maxLen:=by
 rcases h.2 with ⟨hv,hn⟩|⟨g,cap,cur,hv,_,_,_,hm,_⟩
 .simp only [VC] at hv;unfold maxLen;omega
 .simp only [VC] at hv;omega
theorem Own.setCell_lt {w:World} {B:Nat} {e:TypeId} {size:Nat} {a:Option Addr} {n c:Nat} {vs:List Value} (h:Own w B e size a n c vs) (x:Addr) (v:Value) (hx:x.block<B):Own (w.setCell x v) B e size a n c vs:=by
 refine ⟨h.1,?_⟩;rcases h.2 with h2|⟨g,cap,cur,h1,h2,h3,h4⟩
 .exact .inl h2
 .exact .inr ⟨g,cap,cur,h1,h2,Blk.other h3 x v oA,h4⟩
theorem Own.setRow_lt {w:World} {B:Nat} {e:TypeId} {size:Nat} {a:Option Addr} {n c:Nat} {vs:List Value} (h:Own w B e size a n c vs) (g':Nat) (cs:Array Value) (hx:g'<B):Own (w.setRow g' cs) B e size a n c vs:=by
 refine ⟨h.1,?_⟩;rcases h.2 with h2|⟨g,cap,cur,h1,h2,h3,h4⟩
 .exact .inl h2
 .exact .inr ⟨g,cap,cur,h1,h2,Blk.setRow_other h3 g' cs oA,h4⟩
theorem Own.apart {w w':World} {B B':Nat} {T t:TypeId} {size size':Nat} {a A:Option Addr} {n c m C:Nat} {vs us:List Value} (h:Own w B t size A m C us) (ho:Own w B' T size' a n c vs) (hne:T≠t) (hg:w.grownBy w' (Value.slice a n c).ownBlock):Own w' B t size A m C us:=by
 refine ⟨h.1,?_⟩;rcases h.2 with h2|⟨g,cap,cur,h1,h2,h3,h4⟩
 .exact .inl h2
 .refine .inr ⟨g,cap,cur,h1,h2,?_,h4⟩;refine (hg.block g (VK.1 h3).1 fun e=> ?_).trans h3;rcases ho.2 with ⟨k1,_⟩|⟨g',cap',cur',k1,_,k3,_⟩
  .rw [k1] at e;cases e
  .rw [k1] at e;cases e;rw [h3] at k3;simp only [Vn,Obj.cells.injEq] at k3;exact hne k3.2.1.symm
theorem aw.new (w:World) (cs:Array Value) (e:TypeId):aw (w.alloc (.cells cs e)) (some ⟨w.heap.size,0,none⟩) cs.toList:=by
 refine aw.mk fun i hi=> ?_;rw [VS,World.cell?_alloc_mark];simp at hi;simp [hi]
theorem aw.new' (w:World) (cs:Array Value) (e:TypeId) (g:Nat) (hg:w.heap.size=g):aw (w.alloc (.cells cs e)) (some ⟨g,0,none⟩) cs.toList:=by subst hg;exact aw.new w cs e
theorem Own.setRow_apart {w:World} {B:Nat} {e:TypeId} {size:Nat} {a:Option Addr} {n c:Nat} {vs:List Value} (h:Own w B e size a n c vs) {g:Nat} {cs:Array Value} {t:TypeId} (hB:Blk w g cs t) (hne:t≠e) (cs':Array Value):Own (w.setRow g cs') B e size a n c vs:=by
 refine ⟨h.1,?_⟩;rcases h.2 with h2|⟨g',cap,cur,h1,h2,h3,h4⟩
 .exact .inl h2
 .refine .inr ⟨g',cap,cur,h1,h2,Blk.setRow_other h3 g cs' ?_,h4⟩;rintro rfl;unfold Blk at hB;rw [h3] at hB;simp only [Vn,Obj.cells.injEq] at hB;exact hne hB.2.1.symm
theorem Own.setCell_apart {w:World} {B:Nat} {e:TypeId} {size:Nat} {a:Option Addr} {n c:Nat} {vs:List Value} (h:Own w B e size a n c vs) {g:Nat} {cs:Array Value} {t:TypeId} (hB:Blk w g cs t) (hne:t≠e) (i:Nat) (v:Value):Own (w.setCell ⟨g,i,none⟩ v) B e size a n c vs:=by
 rw [setCell_eq_setRow w g i cs t (0,0) v hB];exact h.setRow_apart hB hne _
theorem Blk.ne {w:World} {b g:Nat} {cs cs':Array Value} {t t':TypeId} (h:Blk w b cs t) (h':Blk w g cs' t') (hne:t≠t'):b≠g:=by
 rintro rfl;unfold Blk at h h';rw [h] at h';simp only [Vn,Obj.cells.injEq] at h';exact hne h'.2.1
theorem Blk.rule {w:World} {g:Nat} {cs:Array Value} {t:TypeId} (h:Blk w g cs t) (i:Nat):w.cell? ⟨g,i,none⟩=cs[i]? :=cell_of_row w g i cs t (0,0) h
theorem Blk.cells {w:World} {g:Nat} {cs:List Value} {t:TypeId} (h:Blk w g cs.toArray t):∀j (hj:j<cs.length),w.cell? ⟨g,0+j,none⟩=some cs[j]:=fun j hj=>by
 rw [VS,h.rule];simp [hj]
def cD (cs:Array Value) (o:Nat) (new:Array Value):Array Value:=(cs.toList.take o++new.toList++cs.toList.drop (o+new.size)).toArray
theorem pB {P:Program} (w:World) (g o:Nat) (t ty:TypeId) (old cells:Array Value) (hg:Blk w g old t) (hi:(P.info? ty).map (·.size)=some cells.size)
  (ho:o+cells.size<=old.size) (h1:cells.toList.all (·.oneCell')=true):
  (storeVar ty ⟨g,o,none⟩ (.agg cells)).run P w= .ok () (w.setRow g (cD old o cells)):=by
 have:=run_storeCells_at (P:=P) g o t cells.toList 0 old w hg (by simpa using ho) (fun v hv=>XA.1 h1 v hv);cases hq:P.info? ty with
 |none=>simp [hq] at hi
 |some i=>
  have hs:cells.size=i.size:=(by simp [hq] at hi;omega);simp [storeVar,sizeOf,typeInfo,hq,Value.cells,hs,this,cD]
theorem bf {P:Program} {o:Oper} {a:Act} {w:World} {K:Act->World->Prop} {Q:Exit->Act->World->Prop} (ty:TypeId) {n:Nat} (hT:lR P ty n) (x y:Operand) (ho:o.op= .store ty x y)
  {g o':Nat} {cells:Array Value} (hx:a.eval x= .pointer (some ⟨g,o',none⟩)) (hy:a.eval y= .agg cells) {t:TypeId} {old:Array Value} (hB:Blk w g old t) (hn:cells.size=n) (ho':o'+n<=old.size) (h1:cells.toList.all (·.oneCell')=true)
  (h:K (a.put o.dst undef) (w.setRow g (cD old o' cells))):o.wp P a w K Q:=by
 unfold Oper.wp execOp;simp only [ho,hx,hy,Instr.storeAt,Instr.sureAddr,Wm,Sem.run_pure,WT,pB w g o' t ty old cells hB (by rw [hT.2,hn]) oA h1];exact h
theorem eP {P:Program} {ops:Array Oper} {rest:List Oper} {o:Oper} {a:Act} {w:World} {Q:Exit->Act->World->Prop} (hgd:o.guard=none) (ty:TypeId) {n:Nat} (hT:lR P ty n) (x y:Operand) (ho:o.op= .store ty x y)
  {g o':Nat} {cells:Array Value} (hx:a.eval x= .pointer (some ⟨g,o',none⟩)) (hy:a.eval y= .agg cells) {t:TypeId} {old:Array Value} (hB:Blk w g old t) (hn:cells.size=n) (ho':o'+n<=old.size) (h1:cells.toList.all (·.oneCell')=true)
  (h:wpList P ops Q rest (a.put o.dst undef) (w.setRow g (cD old o' cells))):wpList P ops Q (o::rest) a w:=
 XO hgd fun _ hK=>bf ty hT x y ho hx hy hB hn ho' h1 (hK _ _ h)
theorem dk {P:Program} {ops:Array Oper} {rest:List Oper} {o:Oper} {a:Act} {w:World} {Q:Exit->Act->World->Prop} (hgd:o.guard=none) (ty:TypeId) {n:Nat} (hT:lR P ty n) (x:Operand) (ho:o.op= .load ty x)
  {g o':Nat} (hx:a.eval x= .pointer (some ⟨g,o',none⟩)) {t:TypeId} {cs:Array Value} (hB:Blk w g cs t) {part:List Value} (hp:(cs.toList.drop o').take n=part) (hn:part.length=n)
  (h:wpList P ops Q rest (a.put o.dst (.agg part.toArray)) w):wpList P ops Q (o::rest) a w:=
 eC hgd ty hT x ho hx rfl (fun j hj=>by
  subst hp;rw [hB.rule];have hj':=hj;rw [ltA,ldA] at hj';simp [List.getElem_take,List.getElem_drop]) hn h
def dy (l:List UInt8):ByteArray:=⟨l.toArray⟩
theorem mU (l:List UInt8):(dy l).size=l.length:=by simp [dy,ByteArray.size]
theorem mh {P:Program} (w:World) {src dst e:TypeId} (hs:P.underlying src=some (.slice e)) (he:P.underlying e=some (.int .u8)) (hd:P.underlying dst=some .string)
  {a:Option Addr} {len c:Nat} {l:List UInt8} (h:ah w a l) (hlen:l.length=len):
  (convert src dst (.slice a len c)).run P w= .ok (.string (dy l)) w:=by
 subst hlen
 match a,h with
 |none,h=>
  have h0:l=[]:=by
   cases l with
   |nil=>rfl
   |cons u r=>obtain ⟨b,o,e,_⟩:=h 0 skA;cases e
  subst h0;rw [run_convert_bytes_string w src dst e none _ c hs he hd];rfl
 |some ad,h=>
  refine run_convert_bytes_back w src dst e ad c l hs he hd fun j hj=> ?_;obtain ⟨b,o,e,hc⟩:=h j (by simpa using hj);obtain rfl:=Wo e;rw [Vs,hc];simp [bv,U8]
theorem ah.new (w:World) (cs:Array Value) (e:TypeId) (fr:Nat×Nat) (l:List UInt8) (hcs:cs=(l.map bv).toArray):ah (w.alloc (.cells cs e fr)) (some ⟨w.heap.size,0,none⟩) l:=by
 subst hcs;refine aw.mk fun i hi=> ?_;rw [VS,World.cell?_alloc_mark];simp at hi;simp [hi]
theorem rM {w:World} {a:Option Addr} {len cap:Nat} {zs:List Int}
  (h:(a=none/\len=0/\cap=0/\zs=[])\/
   ∃x,a=some x/\len<=cap/\cap<=maxLen/\zs.length=cap/\(∀i,i<zs.length->w.cell? (x.add i)=some (.int .u8 (zs.getD i 0)))/\∀n∈zs,(Lit.int .u8 n).wf=true):
  ∃l:List UInt8,l.length=len/\ah w a l/\len<=cap/\cap<=maxLen:=by
 rcases h with ⟨rfl,rfl,rfl,rfl⟩|⟨x,rfl,hl,hm,hz,hc,hw⟩
 .exact ⟨[],rfl,aw.nil _ _,Lt _,mxA⟩
 .refine ⟨(zs.take len).map (fun n=>UInt8.ofNat n.toNat),soA,?_,hl,hm⟩;intro i hi;simp only [lmA,ltA] at hi;obtain ⟨b,o,sp⟩:=x;have h1:=hc i oA;have h0:=hc 0 oA;have hsp:sp=none:=(by simpa [Addr.add] using World.cell?_spot h0);subst hsp;rw [Vs] at h1;refine ⟨b,o,rfl,h1.trans ?_⟩;have hin:zs[i]' oA∈zs:=VE _;have hb:=hw _ hin;simp only [Lit.wf,IntKind.min,IntKind.max,IntKind.signed,IntKind.bits,VN] at hb;simp only [Wz,List.getElem_take,bv,U8,List.getD,Vx (show i<zs.length by omega),Option.getD_some];congr 2;have:(UInt8.ofNat (zs[i]' oA).toNat).toNat=(zs[i]' oA).toNat:=by
   simp at hb;rw [UInt8.toNat_ofNat'];omega
  rw [this];simp at hb;omega
def yL (w:World) (a:Option Addr) (ls:List (List UInt8)):Prop:=
 ∀r (h:r<ls.length),∃b o A C,a=some ⟨b,o,none⟩/\w.cell? ⟨b,o+r,none⟩=some (.slice A ls[r].length C)/\ah w A ls[r]/\ls[r].length<=C/\C<=maxLen
end
section
open Go.ChangeShapes Go.WideShapes Go.ChangeAt Go.RowKit
theorem iY {H:Type} {P:Program} {e:TypeId}:∀{l:List (DataW H)} {d:DataW H},d∈l->∀n∈d.weights P e,n∈DataW.weightsAll P e l
 |x::r,d,h,n,hn=>by
  simp only [DataW.weightsAll,VQ];rcases Ve.1 h with rfl|h
  .exact .inl hn
  .exact .inr (iY h n hn)
theorem DV {H:Type} {P:Program} {ts:List TypeId} {ds:List (DataW H)} (h:(DataW.weightsEach P ts ds).all (·<=reachBytes)=true) {j:Nat} {t:TypeId} {d:DataW H} (ht:ts[j]? =some t) (hd:ds[j]? =some d):∀n∈d.weights P t,n<=reachBytes:=by
 intro n hn;have:=XA.1 h n (DataW.weights_mem_each ht hd n hn);simpa using this
section
variable {H:Type} {enc:TypeId×Value->H} {P:Program} {W:World} {base:Nat} {held:Bool}
theorem rL {t e:TypeId} {v:Value} {d:DataW H} {ps:List MemPlace} {r:Reach} {b0:Nat} (ht:P.underlying t=some (.slice e)) (he:P.underlying e=some (.int .u8)) (ce:P.cellsOf e=1)
  (hv:Value.okWide P W r b0 t v) (h:DataW.Trod enc P W base (fun _=>true) held t v d ps):
  ∃a len cap,∃l:List UInt8,v= .slice a len cap/\l.length=len/\ah W a l/\len<=cap/\cap<=maxLen:=by
 obtain ⟨a,len,cap,rfl⟩:=okWide_slice ht hv;obtain ⟨fuel,hf⟩:=h;rcases open_ints ht he ce hf with ⟨hcs,_⟩|⟨x,l,c,zs,hcs,_,hl,hm,hz,_,hcell,hwz⟩
 .simp [Value.cells] at hcs;obtain ⟨rfl,rfl,rfl⟩:=hcs;obtain ⟨l,h1,h2,h3,h4⟩:=rM (w:=W) (a:=none) (len:=0) (cap:=0) (zs:=[]) (.inl ⟨rfl,rfl,rfl,rfl⟩);exact ⟨none,0,0,l,rfl,h1,h2,h3,h4⟩
 .simp [Value.cells] at hcs;obtain ⟨rfl,rfl,rfl⟩:=hcs;obtain ⟨l,h1,h2,h3,h4⟩:=rM (w:=W) (a:=some x) (len:=len) (cap:=cap) (zs:=zs) (.inr ⟨x,rfl,hl,hm,by simpa using hz,hcell,hwz⟩);exact ⟨some x,len,cap,l,rfl,h1,h2,h3,h4⟩
end
section
variable {H:Type} {enc:TypeId×Value->H} {P:Program} {w:World}
def qz (enc:TypeId×Value->H) (P:Program) (w:World) (t:TypeId) (cs:List Value):Prop:=
 ∃(n:Nat) (x:DataW H×List MemPlace),DataW.trod enc P w 0 (fun _=>true) true n t cs=some x/\∀m∈x.1.weights P t,m<=reachBytes
theorem kM {α β:Type} {f:α->Option β}:∀{l:List α} {r:List β},l.mapM f=some r->r.length=l.length/\∀(i:Nat) (h:i<l.length) (h':i<r.length),f l[i]=some r[i]
 | [],r,h=>by
  simp at h;subst h;exact ⟨rfl,fun i h=>by simp at h⟩
 |a::l,r,h=>by
  rw [List.mapM_cons] at h;cases ha:f a with
  |none=>simp [ha] at h
  |some b=>
   cases hl:l.mapM f with
   |none=>simp [ha,hl] at h
   |some r'=>
    simp [ha,hl] at h;subst h;obtain ⟨h1,h2⟩:=kM hl;refine ⟨by simp [h1],fun i hi hi'=> ?_⟩;cases i with
    |zero=>simpa using ha
    |succ i=>simpa using h2 i (by simpa using hi) (by simpa using hi')
theorem oX {ts:List TypeId} {ds:List (DataW H)} {i:Nat} (h:i<ts.length) (h':i<ds.length):∀m∈ds[i].weights P ts[i],m∈DataW.weightsEach P ts ds:=
 DataW.weights_mem_each (Vx h) (Vx h')
theorem qz.field {t:TypeId} {fs:Array Field} {cs:List Value} (h:qz enc P w t cs) (hs:P.underlying t=some (.struct fs)) (j:Nat) (hj:j<fs.toList.length):
  qz enc P w fs.toList[j].type ((cs.drop fs.toList[j].offset).take (P.cellsOf fs.toList[j].type)):=by
 obtain ⟨n,x,h1,h2⟩:=h;cases n with
 |zero=>simp [DataW.trod] at h1
 |succ n=>
  unfold DataW.trod at h1;rw [hs] at h1;simp only at h1;split at h1
  .obtain ⟨xs,hx,rfl⟩:=WR.1 h1;obtain ⟨hl,hg⟩:=kM hx;have hj':j<xs.length:=(by rw [hl];exact hj);refine ⟨n,xs[j],hg j hj hj',fun m hm=>h2 m ?_⟩;simp only [DataW.weights,hs];refine oX (i:=j) (by simpa using hj) (by simpa using hj') m ?_;simpa using hm
  .cases h1
theorem qz.elem {t e:TypeId} {k:Nat} {cs:List Value} (h:qz enc P w t cs) (hs:P.underlying t=some (.array k e)) (j:Nat) (hj:j<k):
  qz enc P w e ((cs.drop (j*P.cellsOf e)).take (P.cellsOf e)):=by
 obtain ⟨n,x,h1,h2⟩:=h;cases n with
 |zero=>simp [DataW.trod] at h1
 |succ n=>
  unfold DataW.trod at h1;rw [hs] at h1;simp only at h1;split at h1
  .obtain ⟨xs,hx,rfl⟩:=WR.1 h1;obtain ⟨hl,hg⟩:=kM hx;rw [List.length_range] at hl;have hj':j<xs.length:=(by rw [hl];exact hj);have:=hg j (by simpa using hj) hj';rw [XV] at this;refine ⟨n,xs[j],this,fun m hm=>h2 m ?_⟩;simp only [DataW.weights,hs];exact iY (d:=xs[j].1) (VY.2 ⟨xs[j],VE _,rfl⟩) m hm
  .cases h1
theorem qz.int {t:TypeId} {k:IntKind} {c:Value} (h:qz enc P w t [c]) (hs:P.underlying t=some (.int k)):∃n,c= .int k n/\(Lit.int k n).wf=true:=by
 obtain ⟨n,x,h1,_⟩:=h;cases n with
 |zero=>simp [DataW.trod] at h1
 |succ n=>
  unfold DataW.trod at h1;rw [hs] at h1;split at h1<;>simp_all
theorem qz.slice {t e:TypeId} {c:Value} (h:qz enc P w t [c]) (hs:P.underlying t=some (.slice e)):
  ∃a len cap,c= .slice a len cap/\len<=cap/\cap<=maxLen/\(a=none->len=0)/\len*P.bytesOf e<=140737488351232/\
   ∀x,a=some x->∀i,i<len->∃cs,w.cells? 0 (x.add (i*P.cellsOf e)) (P.cellsOf e)=some cs/\qz enc P w e cs:=by
 obtain ⟨n,x,h1,h2⟩:=h;cases n with
 |zero=>simp [DataW.trod] at h1
 |succ n=>
  unfold DataW.trod at h1;rw [hs] at h1;split at h1
  all_goals try (simp_all;done)
  .rename_i e1 e2;simp at e2;subst e2;exact ⟨none,0,0,rfl,Lt _,mxA,fun _=>rfl,oA,fun x hx=>by cases hx⟩
  .rename_i e' ad len cap e1 e2;simp only [Vn,TypeDesc.slice.injEq] at e1;simp at e2;subst e1 e2;simp only at h1;split at h1
   .rename_i hcond;obtain ⟨elems,hx,h3⟩:=Option.bind_eq_some_iff.1 h1;obtain ⟨rest,hr,rfl⟩:=WR.1 h3;obtain ⟨hl,hg⟩:=kM hx;rw [List.length_range] at hl;refine ⟨some ad,len,cap,rfl,hcond.2.1,hcond.2.2,fun h=>by simp at h,?_,fun x hx i hi=> ?_⟩
    .have:=h2 ((elems.length+rest.length)*P.bytesOf e) (by simp [DataW.weights,hs]);rw [hl] at this;have hmul:len*P.bytesOf e<=(len+rest.length)*P.bytesOf e:=WZ _ oA;have hr:reachBytes=140737488351232:=rfl;omega
    .obtain rfl:=Wo hx;have hi':i<elems.length:=(by rw [hl];exact hi);have:=hg i (by simpa using hi) hi';rw [XV] at this;obtain ⟨cs,hc,ht⟩:=Option.bind_eq_some_iff.1 this;refine ⟨cs,hc,n,elems[i],ht,fun m hm=>h2 m ?_⟩;simp only [DataW.weights,hs,Ve,VQ];exact .inr (.inl (iY (d:=elems[i].1) (VY.2 ⟨elems[i],VE _,rfl⟩) m hm))
   .cases h1
theorem lJ {α:Type} {g:α->List Value} {sz:Nat} (hg:∀y,(g y).length=sz):∀l:List α,(l.flatMap g).length=l.length*sz
 | []=>by simp
 |y::l=>by rw [Vh,laA,hg,lJ hg l,VT,Ws];omega
theorem qf {α:Type} {g:α->List Value} {sz:Nat} (hg:∀y,(g y).length=sz):∀(l:List α) (i r:Nat),r<sz->(h:i<l.length)->(l.flatMap g)[i*sz+r]? =(g l[i])[r]?
 |y::l,0,r,hr,_=>by rw [Vh,Nat.zero_mul,VS,Vm (by rw [hg];exact hr)];rfl
 |y::l,i+1,r,hr,h=>by
  rw [Vh,WU (by rw [hg,Ws];omega),hg];have:(i+1)*sz+r-sz=i*sz+r:=(by rw [Ws];omega);rw [this,qf hg l i r hr (by simpa using h)];rfl
theorem tC {α:Type} [Inhabited α] {g:α->List Value} {Ok:α->Prop} {sz:Nat} {e:TypeId} (hg:∀y,(g y).length=sz) (hpos:0<sz) (hce:P.cellsOf e=sz) (hread:∀cs,qz enc P w e cs->cs.length=sz->∃y,cs=g y/\Ok y)
  {a:Option Addr} {len:Nat} (h0:a=none->len=0) (h:∀x,a=some x->∀i,i<len->∃cs,w.cells? 0 (x.add (i*P.cellsOf e)) (P.cellsOf e)=some cs/\qz enc P w e cs):
  ∃l:List α,l.length=len/\aw w a (l.flatMap g)/\∀y∈l,Ok y:=by
 rw [hce] at h;cases a with
 |none=>exact ⟨[],(h0 rfl).symm,aw.nil _ _,fun y hy=>by simp at hy⟩
 |some x=>
  have each:∀i,i<len->∃y,w.cells? 0 (x.add (i*sz)) sz=some (g y)/\Ok y:=by
   intro i hi;obtain ⟨cs,h1,h2⟩:=h x rfl i hi;have hlen:cs.length=sz:=by
    unfold World.cells? at h1;rw [if_pos (Vo _)] at h1;have:=(kM h1).1;simpa using this
   obtain ⟨y,rfl,hy⟩:=hread cs h2 hlen;exact ⟨y,h1,hy⟩
  obtain ⟨y,hy⟩:=Go.Deep.choose_lt each;have cell:∀i r,i<len->r<sz->w.cell? ((x.add (i*sz)).add r)=(g (y i))[r]? :=by
   intro i r hi hr;have h1:=(hy i hi).1;unfold World.cells? at h1;rw [if_pos (Vo _)] at h1;obtain ⟨hl,hm⟩:=kM h1;have hr':r<(g (y i)).length:=(by rw [hg];exact hr);have:=hm r (by simpa using hr) hr';rw [XV] at this;rw [this,Vx hr']
  refine ⟨(List.range len).map y,skA,?_,fun z hz=> ?_⟩
  .intro j hj;rw [lJ hg,lmA,List.length_range] at hj;have hi:j/sz<len:=(Nat.div_lt_iff_lt_mul hpos).2 hj;have hr:j%sz<sz:=Nat.mod_lt _ hpos;have hsp:x.spot=none:=by
    have h00:=cell 0 0 (XD (Vo _) hi) hpos;have hlt:0<(g (y 0)).length:=(by rw [hg];exact hpos);rw [Vx hlt] at h00;simp [Addr.add] at h00;exact World.cell?_spot h00
   obtain ⟨b,o,sp⟩:=x;simp only at hsp;subst hsp;have hc:=cell (j/sz) (j%sz) hi hr;rw [Vs,Vs,WP,Wi,Nat.div_add_mod] at hc;refine ⟨b,o,rfl,hc.trans ?_⟩;have hf:=qf hg ((List.range len).map y) (j/sz) (j%sz) hr (by simpa using hi);rw [Wi,Nat.div_add_mod] at hf;simp only [Wz,XV] at hf;rw [<-hf,Vx]
  .obtain ⟨i,hi,rfl⟩:=VY.1 hz;exact (hy i (Wk.1 hi)).2
theorem Fx {t:TypeId} {v:Value} {d:DataW H} {ps:List MemPlace} {r:Reach} {b0:Nat} (hz:∀n∈d.weights P t,n<=reachBytes) (hv:Value.okWide P w r b0 t v)
  (ht:(∃e,P.underlying t=some (.slice e))) (h:DataW.Trod enc P w 0 (fun _=>true) true t v d ps):qz enc P w t [v]:=by
 obtain ⟨e,ht⟩:=ht;obtain ⟨a,len,cap,rfl⟩:=okWide_slice ht hv;obtain ⟨fuel,hf⟩:=h;exact ⟨fuel,(d,ps),by simpa [Value.cells] using hf,hz⟩
end
end
end Go.Proofs.YtioigihakjlopaaGreat
