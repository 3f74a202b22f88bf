/- Texts put together and cut to what is used: Base, Came. -/
import Derived.WalkKit
import Derived.WalkSpells
import Derived.WalkLawsBesides
import Derived.Lib.Hide
import Derived.Deep.MidRow
import Derived.Deep.LoopGhost
import Derived.Deep.QuietTactic
import Derived.BigQuiet
import Derived.Lib.SlBytesConst
import Derived.Deep.RegionHeld3
import Derived.Laws.ResultCell
import Derived.Laws.CopyRow
import Derived.Deep.DeepCutAuto
import Derived.ProofKit
import Derived.OpenShut
import Derived.ShutString
import Derived.ChangeOld
import Derived.Deep.Matrix
import Derived.SizedLaws
namespace Go.Proofs.YtioigihakjlopaaGreat
set_option linter.unusedVariables false
set_option linter.unusedSimpArgs false
section
open Go.RowKit
def U8 (a:UInt8):Int:=a.toNat
def U32 (a:BitVec 32):Int:=a.toNat
def U64 (a:BitVec 64):Int:=a.toNat
theorem U8_lo (a:UInt8):0≤U8 a:=by simp [U8]
theorem U8_hi (a:UInt8):U8 a≤255:=by have:=a.toBitVec.isLt;simp only [U8];have h:a.toNat<256:=this;omega
theorem U8_inj {a b:UInt8}:U8 a=U8 b↔a=b:=by
 simp only [U8]
 constructor
 ·intro h;exact UInt8.toNat_inj.1 (by exact_mod_cast h)
 ·rintro rfl;rfl
theorem U8_beq (a b:UInt8):(U8 a==U8 b)=(a==b):=by
 rw [Bool.eq_iff_iff];simp [U8_inj]
theorem ofInt_U8 (a:UInt8):BitVec.ofInt 8 (U8 a)=a.toBitVec:=by
 have:U8 a=(a.toBitVec.toNat:Int):=rfl
 rw [this];simp
theorem ofInt_U32 (a:BitVec 32):BitVec.ofInt 32 (U32 a)=a:=by simp [U32]
theorem ofInt32_U8 (a:UInt8):BitVec.ofInt 32 (U8 a)=a.toBitVec.setWidth 32:=by
 apply BitVec.eq_of_toNat_eq
 have h:a.toNat<256:=a.toBitVec.isLt
 have e:a.toBitVec.toNat=a.toNat:=rfl
 simp only [U8,BitVec.toNat_ofInt,BitVec.toNat_setWidth,e];omega
theorem wrap_u8 (a:BitVec 8):IntKind.u8.wrap (a.toNat:Int)=U8 ⟨a⟩:=by
 rw [IntWalk.u8_in];rfl
 have:=a.isLt;omega
theorem wrap_u32 (a:BitVec 32):IntKind.u32.wrap (a.toNat:Int)=U32 a:=by
 rw [IntWalk.u32_in];rfl
 have:=a.isLt;omega
theorem wrap_u64 (a:BitVec 64):IntKind.u64.wrap (a.toNat:Int)=U64 a:=by
 rw [IntWalk.u64_in];rfl
 have:=a.isLt;omega
theorem bits_xor_u8 (x y:Int):bits .xor .u8 x y=U8 ⟨BitVec.ofInt 8 x^^^BitVec.ofInt 8 y⟩:=wrap_u8 _
theorem bits_xor_u32 (x y:Int):bits .xor .u32 x y=U32 (BitVec.ofInt 32 x^^^BitVec.ofInt 32 y):=wrap_u32 _
theorem bits_and_u32 (x y:Int):bits .and .u32 x y=U32 (BitVec.ofInt 32 x&&&BitVec.ofInt 32 y):=wrap_u32 _
theorem bits_or_u32 (x y:Int):bits .or .u32 x y=U32 (BitVec.ofInt 32 x|||BitVec.ofInt 32 y):=wrap_u32 _
theorem bits_and_u64 (x y:Int):bits .and .u64 x y=U64 (BitVec.ofInt 64 x&&&BitVec.ofInt 64 y):=wrap_u64 _
theorem not_u32 (a:BitVec 32):BitVec.ofInt 32 IntKind.u32.max^^^a= ~~~a:=by
 have:BitVec.ofInt 32 IntKind.u32.max=BitVec.allOnes 32:=by decide
 rw [this,BitVec.allOnes_xor]
theorem U32_shr (a:BitVec 32) (k:Nat):U32 a/((2^k:Nat):Int)=U32 (a>>>k):=by
 simp [U32,Nat.shiftRight_eq_div_pow]
theorem U32_shr_pow (a:BitVec 32) (k:Nat):U32 a/(2:Int)^k=U32 (a>>>k):=by
 rw [←U32_shr];norm_cast
theorem U64_shr_pow (a:BitVec 64) (k:Nat):U64 a/(2:Int)^k=U64 (a>>>k):=by
 simp only [U64,BitVec.toNat_ushiftRight,Nat.shiftRight_eq_div_pow];norm_cast
theorem U32_neg (a:BitVec 32): -U32 a%4294967296=U32 (-a):=by
 have:=a.isLt
 simp only [U32,BitVec.toNat_neg];omega
theorem U32_shl (a:BitVec 32) (k:Nat):U32 a*((2^k:Nat):Int)%4294967296=U32 (a<<<k):=by
 simp only [U32,BitVec.toNat_shiftLeft,Nat.shiftLeft_eq];simp
theorem U32_byte (a:BitVec 32):U32 a%256=U8 ⟨a.setWidth 8⟩:=by
 show ((a.toNat:Int))%256=((a.setWidth 8).toNat:Int)
 simp only [BitVec.toNat_setWidth];simp
theorem U64_byte (a:BitVec 64):U64 a%256=U8 ⟨a.setWidth 8⟩:=by
 show ((a.toNat:Int))%256=((a.setWidth 8).toNat:Int)
 simp only [BitVec.toNat_setWidth];simp
def bv (c:UInt8):Value:= .int .u8 (U8 c)
theorem setCell_twice (w:World) (a:Addr) (u v:Value):(w.setCell a u).setCell a v=w.setCell a v:=by
 unfold World.setCell
 simp only [World.mk.injEq,and_true]
 apply Array.ext_getElem?
 intro i
 simp only [Array.getElem?_modify]
 split
 ·cases w.heap[i]? with
  |none=>rfl
  |some o=>cases o<;>simp;split<;>simp
 ·rfl
def RowAt (w:World) (a:Option Addr) (vs:List Value):Prop:=
 ∀i (h:i<vs.length),∃b o,a=some ⟨b,o,none⟩∧w.cell? ⟨b,o+i,none⟩=some vs[i]
theorem RowAt.nil (w:World) (a:Option Addr):RowAt w a []:=fun i h=>by simp at h
theorem RowAt.at {w:World} {a:Option Addr} {vs:List Value} (h:RowAt w a vs) (hne:0<vs.length):
  ∃b o,a=some ⟨b,o,none⟩∧∀i (hi:i<vs.length),w.cell? ⟨b,o+i,none⟩=some vs[i]:=by
 obtain ⟨b,o,rfl,_⟩:=h 0 hne
 refine ⟨b,o,rfl,fun i hi=> ?_⟩
 obtain ⟨b',o',e,hc⟩:=h i hi
 simp only [Option.some.injEq,Addr.mk.injEq] at e
 obtain ⟨rfl,rfl,-⟩:=e
 exact hc
theorem RowAt.mk {w:World} {b o:Nat} {vs:List Value} (h:∀i (hi:i<vs.length),w.cell? ⟨b,o+i,none⟩=some vs[i]):
  RowAt w (some ⟨b,o,none⟩) vs:=fun i hi=>⟨b,o,rfl,h i hi⟩
theorem RowAt.lt {w:World} {b o:Nat} {vs:List Value} (h:RowAt w (some ⟨b,o,none⟩) vs) (hne:0<vs.length):b<w.heap.size:=by
 obtain ⟨b',o',e,hc⟩:=h 0 hne
 simp only [Option.some.injEq,Addr.mk.injEq] at e
 obtain ⟨rfl,rfl,-⟩:=e
 exact World.block_lt_of_cell? w _ hc
theorem RowAt.below {w w':World} {a:Option Addr} {vs:List Value} (h:RowAt w a vs) (hb:Below w.heap.size w w'):RowAt w' a vs:=by
 intro i hi
 obtain ⟨b,o,e,hc⟩:=h i hi
 exact ⟨b,o,e,by rw [hb.cell (World.block_lt_of_cell? w _ hc)];exact hc⟩
theorem RowAt.alloc {w:World} {a:Option Addr} {vs:List Value} (h:RowAt w a vs) (o:Obj):RowAt (w.alloc o) a vs:=h.below ((Below.refl _ _).alloc (Nat.le_refl _) o)
theorem RowAt.drew {w:World} {a:Option Addr} {vs:List Value} (h:RowAt w a vs):RowAt w.drew a vs:=h
theorem below_drewN {B:Nat} {w0 w:World} (h:Below B w0 w) (n:Nat):Below B w0 (w.drewN n):=⟨h.os,h.tape,h.output,h.size,h.block⟩
theorem below_undrew {B:Nat} {w0 w:World} (h:Below B w0 w):Below B w0.drew w:=⟨h.os,h.tape,h.output,h.size,h.block⟩
theorem RowAt.drop {w:World} {b o:Nat} {vs:List Value} (k:Nat) (h:RowAt w (some ⟨b,o,none⟩) vs):RowAt w (some ⟨b,o+k,none⟩) (vs.drop k):=by
 refine RowAt.mk fun i hi=> ?_
 rw [List.length_drop] at hi
 obtain ⟨b',o',e,hc⟩:=h (k+i) (by omega)
 simp only [Option.some.injEq,Addr.mk.injEq] at e
 obtain ⟨rfl,rfl,-⟩:=e
 rw [Nat.add_assoc];simpa using hc
theorem RowAt.take {w:World} {a:Option Addr} {vs:List Value} (k:Nat) (h:RowAt w a vs):RowAt w a (vs.take k):=by
 intro i hi
 rw [List.length_take] at hi
 obtain ⟨b,o,e,hc⟩:=h i (by omega)
 exact ⟨b,o,e,by simpa using hc⟩
def BytesAt (w:World) (a:Option Addr) (l:List UInt8):Prop:=RowAt w a (l.map bv)
theorem BytesAt.at {w:World} {a:Option Addr} {l:List UInt8} (h:BytesAt w a l) (hne:0<l.length):
  ∃b o,a=some ⟨b,o,none⟩∧∀i (hi:i<l.length),w.cell? ⟨b,o+i,none⟩=some (.int .u8 (U8 l[i])):=by
 obtain ⟨b,o,e,hc⟩:=RowAt.at h (by simpa using hne)
 refine ⟨b,o,e,fun i hi=> ?_⟩
 have:=hc i (by simpa using hi)
 simpa [bv] using this
theorem BytesAt.alloc {w:World} {a:Option Addr} {l:List UInt8} (h:BytesAt w a l) (o:Obj):BytesAt (w.alloc o) a l:=RowAt.alloc h o
theorem BytesAt.drew {w:World} {a:Option Addr} {l:List UInt8} (h:BytesAt w a l):BytesAt w.drew a l:=h
theorem BytesAt.below {w w':World} {a:Option Addr} {l:List UInt8} (h:BytesAt w a l) (hb:Below w.heap.size w w'):BytesAt w' a l:=RowAt.below h hb
theorem below_step {w0 w1 w2:World} (h1:Below w0.heap.size w0 w1) (h2:Below w1.heap.size w1 w2):Below w0.heap.size w0 w2:=h1.trans (h2.mono h1.size)
section
variable {P:Program}
theorem run_index_arr {t e:TypeId} {n:Nat} (ht:P.underlying t=some (.array n e)) {d:TypeDesc} (he:P.underlying e=some d) (hd:d.isRow=false)
  (hsz:(P.info? e).map (·.size)=some 1) {kk:IntKind} (w:World) (cs:Array Value) (k:Nat) (v:Value) (hk:cs[k]? =some v) (hn:k<n):
  (Instr.index t (.agg cs) (.int kk (k:Int))).run P w= .ok v w:=by
 have hagg:(isAgg e).run P w= .ok false w:=by
  unfold isAgg
  rw [Sem.run_bind,run_underlying he w]
  cases d<;>simp_all [TypeDesc.isRow]
 cases hq:P.info? e with
 |none=>simp [hq] at hsz
 |some i=>
  have hs:i.size=1:=by simpa [hq] using hsz
  simp [Instr.index,asIntOf,Sem.run_bind,run_underlying ht,hn,sizeOf,typeInfo,hq,hs,part,hagg,hk]
end
def Blk (w:World) (b:Nat) (cs:Array Value) (t:TypeId):Prop:=w.heap[b]? =some (.cells cs t (0,0))
section
variable {w w':World} {b:Nat} {cs:Array Value} {t:TypeId}
theorem Blk.lt (h:Blk w b cs t):b<w.heap.size:=(Array.getElem?_eq_some_iff.1 h).1
theorem Blk.new (w:World) (cs:Array Value) (t:TypeId):Blk (w.alloc (.cells cs t)) w.heap.size cs t:=heap_alloc_new w _
theorem Blk.new2 (w:World) (cs:Array Value) (t:TypeId) (o:Obj):Blk ((w.alloc (.cells cs t)).alloc o) w.heap.size cs t:=heap_alloc2_old w _ _
theorem Blk.new2' (w:World) (cs:Array Value) (t:TypeId) (o:Obj):Blk ((w.alloc o).alloc (.cells cs t)) (w.heap.size+1) cs t:=heap_alloc2_new w _ _
theorem Blk.new3 (w:World) (cs:Array Value) (t:TypeId) (o p:Obj):Blk (((w.alloc (.cells cs t)).alloc o).alloc p) w.heap.size cs t:=(Below.heap_alloc _ p _ (Blk.new2 w cs t o|>fun h=>(Array.getElem?_eq_some_iff.1 h).1)).trans (Blk.new2 w cs t o)
theorem Blk.new3' (w:World) (cs:Array Value) (t:TypeId) (o p:Obj):Blk (((w.alloc o).alloc (.cells cs t)).alloc p) (w.heap.size+1) cs t:=(Below.heap_alloc _ p _ (Blk.new2' w cs t o|>fun h=>(Array.getElem?_eq_some_iff.1 h).1)).trans (Blk.new2' w cs t o)
theorem Blk.new3'' (w:World) (cs:Array Value) (t:TypeId) (o p:Obj):Blk (((w.alloc o).alloc p).alloc (.cells cs t)) (w.heap.size+2) cs t:=by
 have:=Blk.new ((w.alloc o).alloc p) cs t
 have e:((w.alloc o).alloc p).heap.size=w.heap.size+2:=by simp
 rwa [e] at this
theorem Blk.alloc (h:Blk w b cs t) (o:Obj):Blk (w.alloc o) b cs t:=(Below.heap_alloc w o b h.lt).trans h
theorem Blk.drew (h:Blk w b cs t):Blk w.drew b cs t:=h
theorem Blk.below (h:Blk w b cs t) {B:Nat} (hb:Below B w w') (hB:b<B):Blk w' b cs t:=(hb.block b hB).trans h
theorem Blk.old (h:Blk w b cs t) (hb:Below w.heap.size w w'):Blk w' b cs t:=(hb.block b h.lt).trans h
theorem Blk.cell (h:Blk w b cs t) {i:Nat} {v:Value} (hv:cs[i]? =some v):w.cell? ⟨b,i,none⟩=some v:=by
 rw [cell_of_row w b i cs t (0,0) h];exact hv
theorem Blk.free (h:Blk w b cs t) (i:Nat):w.frozen? ⟨b,i,none⟩=false:=frozen_of_row w b i cs t h
theorem Blk.set (h:Blk w b cs t) (i:Nat) (v:Value):Blk (w.setCell ⟨b,i,none⟩ v) b (cs.setIfInBounds i v) t:=heap_setCell_same w b i cs t v h
theorem Blk.other (h:Blk w b cs t) (a:Addr) (v:Value) (hne:b≠a.block):Blk (w.setCell a v) b cs t:=(heap_setCell_other w a b v hne).trans h
theorem Blk.setRow (h:Blk w b cs t) (cs':Array Value):Blk (w.setRow b cs') b cs' t:=setRow_heap w b cs cs' t _ h
theorem Blk.setRow_other (h:Blk w b cs t) (g:Nat) (cs':Array Value) (hne:b≠g):Blk (w.setRow g cs') b cs t:=(Go.setRow_other w g b cs' hne).trans h
theorem Blk.setRow_self (h:Blk w b cs t):w.setRow b cs=w:=Go.setRow_self w b cs t _ h
theorem below_setRow {B g:Nat} {w0 w:World} (hb:Below B w0 w) (hBg:B≤g) (cs:Array Value):Below B w0 (w.setRow g cs):=
 hb.trans ⟨rfl,rfl,rfl,by simp [World.setRow],fun k hk=>Go.setRow_other w g k cs (by omega)⟩
end
def aggD:TypeDesc→Bool
 | .struct _| .array _ _=>true
 |_=>false
def AggT (P:Program) (ty:TypeId) (n:Nat):Prop:=(∃d,P.underlying ty=some d∧aggD d=true)∧(P.info? ty).map (·.size)=some n
section
variable {P:Program}
theorem wpList_load_blk {ops:Array Oper} {rest:List Oper} {o:Oper} {a:Act} {w:World} {Q:Exit→Act→World→Prop} (hgd:o.guard=none) (ty:TypeId) {n:Nat} (hT:AggT P ty n) (x:Operand) (ho:o.op= .load ty x)
  {g:Nat} (hx:a.eval x= .pointer (some ⟨g,0,none⟩)) {t:TypeId} {cs:Array Value} (hB:Blk w g cs t) (hn:cs.size=n)
  (h:wpList P ops Q rest (a.put o.dst (.agg cs)) w):wpList P ops Q (o::rest) a w:=by
 obtain ⟨⟨d,hu,hd⟩,hi⟩:=hT
 exact wpList_load_row hgd ty x ho g hx t cs (0,0) d hB hu (by cases d<;>simp_all [aggD]) (by rw [hi,hn]) h
theorem wpList_store_blk {ops:Array Oper} {rest:List Oper} {o:Oper} {a:Act} {w:World} {Q:Exit→Act→World→Prop} (hgd:o.guard=none) (ty:TypeId) {n:Nat} (hT:AggT P ty n) (x y:Operand) (ho:o.op= .store ty x y)
  {g:Nat} {cells:Array Value} (hx:a.eval x= .pointer (some ⟨g,0,none⟩)) (hy:a.eval y= .agg cells) {t:TypeId} {old:Array Value} (hB:Blk w g old t) (hn:cells.size=n) (ho':old.size=n) (h1:cells.toList.all (·.oneCell')=true)
  (h:wpList P ops Q rest (a.put o.dst undef) (w.setRow g cells)):wpList P ops Q (o::rest) a w:=
 wpList_store_row hgd ty x y ho g cells hx hy t old hB (by rw [hT.2,hn]) (by rw [hn,ho']) (by rw [Array.all_toList] at h1;exact h1) h
theorem post_blk_tmp {fn:Func} {R:Ending→World→Prop} {a:Act} {w:World} {p u:Tmp} {ty:TypeId} (hf:fn.results= #[.cell p ty,.tmp u]) {n:Nat} (hT:AggT P ty n) {g:Nat} {t:TypeId} {cs:Array Value}
  (hp:a.tmps.getD p undef= .pointer (some ⟨g,0,none⟩)) (hB:Blk w g cs t) (hn:cs.size=n) {v:Value} (hu':a.tmps.getD u undef=v) (hd:a.defers=[]) (hR:R (.returned (.tuple #[.agg cs,v])) w):bodyPost P fn R .ret a w:=by
 obtain ⟨⟨d,hu,hd'⟩,hi⟩:=hT
 refine ⟨hd,.tuple #[.agg cs,v],?_,hR⟩
 rw [results_cell_tmp hf,hp,hu']
 simp [asAddr,Result.andThen,run_loadVar_row w g t ty cs (0,0) d hB hu (by cases d<;>simp_all [aggD]) (by rw [hi,hn])]
theorem post_blk {fn:Func} {R:Ending→World→Prop} {a:Act} {w:World} {p:Tmp} {ty:TypeId} (hf:fn.results= #[.cell p ty]) {n:Nat} (hT:AggT P ty n) {g:Nat} {t:TypeId} {cs:Array Value}
  (hp:a.tmps.getD p undef= .pointer (some ⟨g,0,none⟩)) (hB:Blk w g cs t) (hn:cs.size=n) (hd:a.defers=[]) (hR:R (.returned (.agg cs)) w):bodyPost P fn R .ret a w:=by
 obtain ⟨⟨d,hu,hd'⟩,hi⟩:=hT
 exact ⟨hd,_,results_cell_row hf _ _ _ _ _ _ _ hp hB hu (by cases d<;>simp_all [aggD]) (by rw [hi,hn]),hR⟩
end
theorem wpList_load_as {P:Program} {ops:Array Oper} {rest:List Oper} {o:Oper} {a:Act} {w:World} {Q:Exit→Act→World→Prop} (hgd:o.guard=none) (ty:TypeId) {n:Nat} (hT:AggT P ty n) (x:Operand) (ho:o.op= .load ty x)
  {b o':Nat} (hx:a.eval x= .pointer (some ⟨b,o',none⟩)) {cs:List Value} {v:Value} (hv:v= .agg cs.toArray) (hc:∀j (h:j<cs.length),w.cell? ⟨b,o'+j,none⟩=some cs[j]) (hn:cs.length=n)
  (h:wpList P ops Q rest (a.put o.dst v) w):wpList P ops Q (o::rest) a w:=by
 obtain ⟨⟨d,hu,hd⟩,hi⟩:=hT
 subst hv
 refine wpList_plain hgd fun K hK=> ?_
 have hl:(loadCells ⟨b,o',none⟩ cs.length).run P w= .ok cs.toArray w:=
  run_loadCells_list (P:=P) w ⟨b,o',none⟩ cs (fun j v hv=>by
   obtain ⟨hj,rfl⟩:=List.getElem?_eq_some_iff.1 hv
   rw [Addr.add_mid];exact hc j hj)
 have hr:(loadVar ty ⟨b,o',none⟩).run P w= .ok (.agg cs.toArray) w:=by
  cases hq:P.info? ty with
  |none=>simp [hq] at hi
  |some i=>
   have hs:i.size=cs.length:=by simp [hq] at hi;omega
   cases d<;>simp [aggD] at hd<;>simp [loadVar,Sem.run_bind,run_underlying hu,sizeOf,typeInfo,hq,hs,hl,isAgg]
 unfold Oper.wp execOp
 simp only [ho,hx,Instr.loadAt,Instr.sureAddr,Sem.run_bind,Sem.run_pure,Result.andThen_ok,hr]
 exact hK _ _ h
theorem run_load_cells {P:Program} {w:World} {ty:TypeId} {n:Nat} (hT:AggT P ty n) {b o':Nat} {cs:List Value} (hc:∀j (h:j<cs.length),w.cell? ⟨b,o'+j,none⟩=some cs[j]) (hn:cs.length=n):(loadVar ty ⟨b,o',none⟩).run P w= .ok (.agg cs.toArray) w:=by
 obtain ⟨⟨d,hu,hd⟩,hi⟩:=hT
 have hl:(loadCells ⟨b,o',none⟩ cs.length).run P w= .ok cs.toArray w:=
  run_loadCells_list (P:=P) w ⟨b,o',none⟩ cs (fun j v hv=>by
   obtain ⟨hj,rfl⟩:=List.getElem?_eq_some_iff.1 hv
   rw [Addr.add_mid];exact hc j hj)
 cases hq:P.info? ty with
 |none=>simp [hq] at hi
 |some i=>
  have hs:i.size=cs.length:=by simp [hq] at hi;omega
  cases d<;>simp [aggD] at hd<;>simp [loadVar,Sem.run_bind,run_underlying hu,sizeOf,typeInfo,hq,hs,hl,isAgg]
theorem exec_load_as {P:Program} {w:World} {o:Oper} {f:Operand→Value} (ty:TypeId) {n:Nat} (hT:AggT P ty n) (x:Operand) (ho:o.op= .load ty x)
  {b o':Nat} (hx:f x= .pointer (some ⟨b,o',none⟩)) {cs:List Value} {v:Value} (hv:v= .agg cs.toArray) (hc:∀j (h:j<cs.length),w.cell? ⟨b,o'+j,none⟩=some cs[j]) (hn:cs.length=n):
  (execOp f o).run P w= .ok (.value v) w:=by
 subst hv
 unfold execOp
 simp only [ho,hx,Instr.loadAt,Instr.sureAddr,Sem.run_bind,Sem.run_pure,Result.andThen_ok,run_load_cells hT hc hn]
theorem exec_cmp {P:Program} {w:World} {o:Oper} {f:Operand→Value} (op:BinOp) (t:TypeId) (x y:Operand) {t':TypeId} (ho:o.op= .binOp op t x y t') {xs ys:Array Value} (hx:f x= .agg xs) (hy:f y= .agg ys) (hm:P.eqGuardType P.depth t=false)
  {v:Value} (hb:(binOp op t (.agg xs) (.agg ys)).run P w= .ok v w):(execOp f o).run P w= .ok (.value v) w:=by
 unfold execOp
 simp only [ho,hx,hy,Sem.run_bind,run_eqGuard_agg w op t x y xs ys hm,Result.andThen_ok,hb,Sem.run_pure]
theorem RowAt.elem {α:Type} {g:α→List Value} {sz:Nat} (hg:∀y,(g y).length=sz) {w:World} {a:Option Addr} {l:List α} (h:RowAt w a (l.flatMap g)) (hp:0<sz) (k:Nat) (hk:k<l.length):
  ∃b o,a=some ⟨b,o,none⟩∧b<w.heap.size∧∀j (hj:j<(g l[k]).length),w.cell? ⟨b,o+k*sz+j,none⟩=some (g l[k])[j]:=by
 have hlen:∀l:List α,(l.flatMap g).length=l.length*sz:=fun l=>by
  induction l with
  |nil=>simp
  |cons y l ih=>rw [List.flatMap_cons,List.length_append,hg,ih,List.length_cons,Nat.add_mul];omega
 have get:∀(l:List α) (i r:Nat),r<sz→(h:i<l.length)→(l.flatMap g)[i*sz+r]? =(g l[i])[r]? :=by
  intro l
  induction l with
  |nil=>intro i r _ h;simp at h
  |cons y l ih=>
   intro i r hr h
   cases i with
   |zero=>rw [List.flatMap_cons,Nat.zero_mul,Nat.zero_add,List.getElem?_append_left (by rw [hg];exact hr)];rfl
   |succ i=>
    rw [List.flatMap_cons,List.getElem?_append_right (by rw [hg,Nat.add_mul];omega),hg]
    have:(i+1)*sz+r-sz=i*sz+r:=by rw [Nat.add_mul];omega
    rw [this,ih i r hr (by simpa using h)]
    rfl
 have hpos:0<(l.flatMap g).length:=by rw [hlen];exact Nat.mul_pos (by omega) hp
 obtain ⟨b,o,rfl,hc⟩:=h.at hpos
 refine ⟨b,o,rfl,h.lt hpos,fun j hj=> ?_⟩
 have hj':j<sz:=by rw [←hg l[k]];exact hj
 have hlt:k*sz+j<(l.flatMap g).length:=by
  rw [hlen]
  have:(k+1)*sz≤l.length*sz:=Nat.mul_le_mul_right _ hk
  rw [Nat.add_mul] at this;omega
 have h1:=hc (k*sz+j) hlt
 have h2:=get l k j hj' hk
 rw [List.getElem?_eq_getElem hlt,List.getElem?_eq_getElem hj] at h2
 rw [Nat.add_assoc,h1,Option.some.inj h2]
def RowType (P:Program) (t e:TypeId) (size bytes:Nat):Prop:=
 P.underlying t=some (.slice e)∧0<size∧∃i z,P.info? e=some i∧i.zero=some z∧i.size=size∧i.bytes=bytes∧z.cells.size=size
theorem RowType.mk {P:Program} {t e:TypeId} {z:Value} {size bytes:Nat} (h1:P.underlying t=some (.slice e)) (h2:(P.info? e).map (fun i=>(i.zero,i.size,i.bytes))=some (some z,size,bytes))
  (h3:z.cells.size=size) (h4:0<size):RowType P t e size bytes:=by
 obtain ⟨i,hi,hz,hs,hb⟩:=info_parts h2
 exact ⟨h1,h4,i,z,hi,hz,hs,hb,h3⟩
def Own (w:World) (B:Nat) (e:TypeId) (size:Nat) (a:Option Addr) (n c:Nat) (vs:List Value):Prop:=w.ownsRow B e size (.slice a n c) n vs
section
variable {w w':World} {B:Nat} {e:TypeId} {size:Nat} {a:Option Addr} {n c:Nat} {vs:List Value}
theorem Own.row (h:Own w B e size a n c vs):RowAt w a vs:=by
 intro i hi
 rcases h.2 with ⟨hv,hn⟩|⟨g,cap,cur,hv,_⟩
 ·have:=h.1;subst hn;simp only [Nat.zero_mul] at this;omega
 ·simp only [Value.slice.injEq] at hv
  obtain ⟨rfl,-,-⟩:=hv
  have:=World.ownsRow.cells h (g:=g) rfl i vs[i] (List.getElem?_eq_getElem hi)
  rw [Addr.add_mid] at this
  exact ⟨g,0,rfl,this⟩
theorem Own.length (h:Own w B e size a n c vs):vs.length=n*size:=h.1
theorem Own.nil (w:World) (B:Nat) (e:TypeId) (size:Nat):Own w B e size none 0 0 []:=World.ownsRow_nil w B e size
theorem Own.lower {B':Nat} (h:Own w B e size a n c vs) (hB:B'≤B):Own w B' e size a n c vs:=by
 refine ⟨h.1,?_⟩
 rcases h.2 with h2|⟨g,cap,cur,h1,h2,h3⟩
 ·exact .inl h2
 ·exact .inr ⟨g,cap,cur,h1,Nat.le_trans hB h2,h3⟩
theorem Own.old (h:Own w B e size a n c vs) (hb:Below w.heap.size w w'):Own w' B e size a n c vs:=
 World.ownsRow.kept (row:=none) h ⟨hb.os,hb.tape,hb.output,hb.size,fun k hk _=>hb.block k hk⟩ (by cases hv:(Value.slice a n c).ownBlock<;>simp)
theorem Own.drew (h:Own w B e size a n c vs):Own w.drew B e size a n c vs:=h
theorem Own.alloc (h:Own w B e size a n c vs) (o:Obj):Own (w.alloc o) B e size a n c vs:=World.ownsRow.alloc h o
theorem Own.le (h:Own w B e size a n c vs):n≤c:=by
 rcases h.2 with ⟨hv,hn⟩|⟨g,cap,cur,hv,_,_,hle,_⟩
 ·simp only [Value.slice.injEq] at hv;omega
 ·simp only [Value.slice.injEq] at hv;omega
theorem Own.le_max (h:Own w B e size a n c vs):n≤maxLen:=by
 rcases h.2 with ⟨hv,hn⟩|⟨g,cap,cur,hv,_,_,hle,hm,_⟩
 ·omega
 ·omega
theorem Own.grown (h:Own w B e size a n c vs) {w0:World} {B0:Nat} (hb:Below B0 w0 w) (hB:B0≤B) (hg:w.grownBy w' (Value.slice a n c).ownBlock) (hz:B0≤w.heap.size):Below B0 w0 w':=
 hb.grown hg hz (fun k hk=>Nat.le_trans hB (World.ownsRow.lt h k hk).1)
theorem Blk.grown {b:Nat} {cs:Array Value} {t:TypeId} (h:Blk w b cs t) {row:Option Nat} (hg:w.grownBy w' row) (hne:row≠some b):Blk w' b cs t:=
 (hg.block b h.lt (fun e=>hne e.symm)).trans h
end
theorem Own.blk {w:World} {B:Nat} {e:TypeId} {size:Nat} {a:Option Addr} {n c:Nat} {vs:List Value} (h:Own w B e size a n c vs) (hn:0<n):
  ∃g cur,a=some ⟨g,0,none⟩∧B≤g∧Blk w g cur e∧cur.toList.take (n*size)=vs∧cur.size=c*size:=by
 rcases h.2 with ⟨_,h0⟩|⟨g,cap,cur,hv,hB,hg,_,_,hs,ht⟩
 ·omega
 ·simp only [Value.slice.injEq] at hv
  obtain ⟨rfl,-,rfl⟩:=hv
  exact ⟨g,cur,rfl,hB,hg,ht,hs⟩
theorem run_append_none {P:Program} {w:World} (base:Nat) (t ty e:TypeId) (i:TypeInfo) (size:Nat) (ht:P.underlying t=some (.slice e)) (hi:P.info? e=some i)
  (v:Value) (n c:Nat) (xs:List Value) (hown:w.ownsRow base e size v n xs):
  (Builtin.append_ #[t,t] ty #[v,.slice none 0 c]).run P w= .ok v w:=by
 rcases hown.2 with ⟨rfl,rfl⟩|⟨g,cap,cur,rfl,_,_,hnc,_⟩
 ·simp [Builtin.append_,run_underlying ht,sizeOf,typeInfo,hi,Builtin.lenOf,Builtin.firstCells]
 ·simp [Builtin.append_,run_underlying ht,sizeOf,typeInfo,hi,Builtin.lenOf,Builtin.firstCells,hnc,storeCells]
theorem wpList_append_row {P:Program} {w:World} {ops:Array Oper} {rest:List Oper} {o:Oper} {a:Act} {Q:Exit→Act→World→Prop} (hgd:o.guard=none) (s x:Operand) (t:TypeId)
  (ho:o.op= .call {callee:= .builtin .append,args:= #[s,x],argTypes:= #[t,t]}) {e:TypeId} {size bytes:Nat} (hT:RowType P t e size bytes)
  {B:Nat} {sa:Option Addr} {n sc:Nat} {xs:List Value} (hs:a.eval s= .slice sa n sc) (hown:Own w B e size sa n sc xs)
  {xa:Option Addr} {m xc:Nat} {news:List Value} (hx:a.eval x= .slice xa m xc) (hrow:RowAt w xa news) (hl:news.length=m*size) (h1:∀u∈news,u.oneCell'=true)
  (h63:n+m≤maxLen) (hbytes:(n+m)*bytes≤140737488355328) (hbase:B≤w.heap.size)
  (h:∀a' c' w',Own w' B e size a' (n+m) c' (xs++news)→w.grownBy w' (Value.slice sa n sc).ownBlock→wpList P ops Q rest (a.put o.dst (.slice a' (n+m) c')) w'):
  wpList P ops Q (o::rest) a w:=by
 obtain ⟨ht,hsz,i,z,hi,hz,hsize,hby,hzs⟩:=hT
 have form:∀(v':Value) (w':World),w'.ownsRow B e size v' (n+m) (xs++news)→∃a' c',v'= .slice a' (n+m) c':=by
  intro v' w' h'
  rcases h'.2 with ⟨rfl,hn⟩|⟨g,cap,cur,rfl,_⟩
  ·exact ⟨none,0,by rw [hn]⟩
  ·exact ⟨_,_,rfl⟩
 match xa,hx,hrow with
 |none,hx,hrow=>
  have hn0:news=[]:=by
   cases news with
   |nil=>rfl
   |cons u r=>obtain ⟨b,o,he,_⟩:=hrow 0 (by simp);cases he
  subst hn0
  have hm:m=0:=by
   simp only [List.length_nil] at hl
   rcases Nat.mul_eq_zero.1 hl.symm with h|h
   ·exact h
   ·omega
  subst hm
  refine wpList_plain hgd fun K hK=> ?_
  have hrun:=run_append_none (P:=P) (w:=w) B t o.type e i size ht hi (.slice sa n sc) n xc xs hown
  unfold Oper.wp
  simp [execOp,ho,resolve,invoke,builtin,hs,hx,hrun,Result.andThen]
  exact hK _ _ (by simpa using h sa sc w (by simpa using hown) (World.grownBy.refl _ _))
 |some ad,hx,hrow=>
  refine wpList_append_own w hgd s x t ho B e i z size bytes ht hi hz hsize hby hzs hsz (.slice sa n sc) n xs hs hown ad m xc news hx hl ?_ h1 h63 hbytes hbase ?_
  ·intro j u hu
   have hj:j<news.length:=(List.getElem?_eq_some_iff.1 hu).1
   obtain ⟨b,o,he,hc⟩:=hrow j hj
   obtain rfl:=Option.some.inj he
   rw [Addr.add_mid,hc,←hu,List.getElem?_eq_getElem hj]
  ·intro v' w' hown' hg _
   obtain ⟨a',c',rfl⟩:=form v' w' hown'
   exact h a' c' w' hown' hg
theorem Own.lit {w:World} {B:Nat} {e:TypeId} (cs:Array Value) (vs:List Value) (n:Nat) (hcs:cs.toList=vs) (hn:vs.length=n) (hb:B≤w.heap.size) (hm:n≤maxLen):
  Own (w.alloc (.cells cs e)) B e 1 (some ⟨w.heap.size,0,none⟩) n n vs:=by
 subst hcs
 exact World.ownsRow_lit w cs n hb hm (by rw [←hn];simp)
theorem all_one (l:List Value) (h:l.all (·.oneCell')=true):∀u∈l,u.oneCell'=true:=List.all_eq_true.1 h
theorem bv_one (l:List UInt8):∀u∈l.map bv,u.oneCell'=true:=by
 intro u hu
 obtain ⟨_,_,rfl⟩:=List.mem_map.1 hu
 rfl
theorem wp_forget {P:Program} {c:Code} {Q:Exit→Act→World→Prop} {a:Act} {W:World} (F:World→Prop) (hF:F W) (h:∀W0,F W0→c.wp P Q a W0):c.wp P Q a W:=h W hF
theorem Own.cap_le {w:World} {B:Nat} {e:TypeId} {size:Nat} {a:Option Addr} {n c:Nat} {vs:List Value} (h:Own w B e size a n c vs):c≤maxLen:=by
 rcases h.2 with ⟨hv,hn⟩|⟨g,cap,cur,hv,_,_,_,hm,_⟩
 ·simp only [Value.slice.injEq] at hv;unfold maxLen;omega
 ·simp only [Value.slice.injEq] at hv;omega
theorem Own.setCell_lt {w:World} {B:Nat} {e:TypeId} {size:Nat} {a:Option Addr} {n c:Nat} {vs:List Value} (h:Own w B e size a n c vs) (x:Addr) (v:Value) (hx:x.block<B):Own (w.setCell x v) B e size a n c vs:=by
 refine ⟨h.1,?_⟩
 rcases h.2 with h2|⟨g,cap,cur,h1,h2,h3,h4⟩
 ·exact .inl h2
 ·exact .inr ⟨g,cap,cur,h1,h2,Blk.other h3 x v (by omega),h4⟩
theorem Own.setRow_lt {w:World} {B:Nat} {e:TypeId} {size:Nat} {a:Option Addr} {n c:Nat} {vs:List Value} (h:Own w B e size a n c vs) (g':Nat) (cs:Array Value) (hx:g'<B):Own (w.setRow g' cs) B e size a n c vs:=by
 refine ⟨h.1,?_⟩
 rcases h.2 with h2|⟨g,cap,cur,h1,h2,h3,h4⟩
 ·exact .inl h2
 ·exact .inr ⟨g,cap,cur,h1,h2,Blk.setRow_other h3 g' cs (by omega),h4⟩
theorem Own.apart {w w':World} {B B':Nat} {T t:TypeId} {size size':Nat} {a A:Option Addr} {n c m C:Nat} {vs us:List Value} (h:Own w B t size A m C us) (ho:Own w B' T size' a n c vs) (hne:T≠t) (hg:w.grownBy w' (Value.slice a n c).ownBlock):Own w' B t size A m C us:=by
 refine ⟨h.1,?_⟩
 rcases h.2 with h2|⟨g,cap,cur,h1,h2,h3,h4⟩
 ·exact .inl h2
 ·refine .inr ⟨g,cap,cur,h1,h2,?_,h4⟩
  refine (hg.block g (Array.getElem?_eq_some_iff.1 h3).1 fun e=> ?_).trans h3
  rcases ho.2 with ⟨k1,_⟩|⟨g',cap',cur',k1,_,k3,_⟩
  ·rw [k1] at e;cases e
  ·rw [k1] at e
   cases e
   rw [h3] at k3
   simp only [Option.some.injEq,Obj.cells.injEq] at k3
   exact hne k3.2.1.symm
theorem RowAt.new (w:World) (cs:Array Value) (e:TypeId):RowAt (w.alloc (.cells cs e)) (some ⟨w.heap.size,0,none⟩) cs.toList:=by
 refine RowAt.mk fun i hi=> ?_
 rw [Nat.zero_add,World.cell?_alloc_mark]
 simp at hi
 simp [hi]
theorem RowAt.new' (w:World) (cs:Array Value) (e:TypeId) (g:Nat) (hg:w.heap.size=g):RowAt (w.alloc (.cells cs e)) (some ⟨g,0,none⟩) cs.toList:=by subst hg;exact RowAt.new w cs e
theorem Own.setRow_apart {w:World} {B:Nat} {e:TypeId} {size:Nat} {a:Option Addr} {n c:Nat} {vs:List Value} (h:Own w B e size a n c vs) {g:Nat} {cs:Array Value} {t:TypeId} (hB:Blk w g cs t) (hne:t≠e) (cs':Array Value):Own (w.setRow g cs') B e size a n c vs:=by
 refine ⟨h.1,?_⟩
 rcases h.2 with h2|⟨g',cap,cur,h1,h2,h3,h4⟩
 ·exact .inl h2
 ·refine .inr ⟨g',cap,cur,h1,h2,Blk.setRow_other h3 g cs' ?_,h4⟩
  rintro rfl
  unfold Blk at hB
  rw [h3] at hB
  simp only [Option.some.injEq,Obj.cells.injEq] at hB
  exact hne hB.2.1.symm
theorem Own.setCell_apart {w:World} {B:Nat} {e:TypeId} {size:Nat} {a:Option Addr} {n c:Nat} {vs:List Value} (h:Own w B e size a n c vs) {g:Nat} {cs:Array Value} {t:TypeId} (hB:Blk w g cs t) (hne:t≠e) (i:Nat) (v:Value):Own (w.setCell ⟨g,i,none⟩ v) B e size a n c vs:=by
 rw [setCell_eq_setRow w g i cs t (0,0) v hB]
 exact h.setRow_apart hB hne _
theorem Blk.ne {w:World} {b g:Nat} {cs cs':Array Value} {t t':TypeId} (h:Blk w b cs t) (h':Blk w g cs' t') (hne:t≠t'):b≠g:=by
 rintro rfl
 unfold Blk at h h'
 rw [h] at h'
 simp only [Option.some.injEq,Obj.cells.injEq] at h'
 exact hne h'.2.1
theorem Blk.rule {w:World} {g:Nat} {cs:Array Value} {t:TypeId} (h:Blk w g cs t) (i:Nat):w.cell? ⟨g,i,none⟩=cs[i]? :=cell_of_row w g i cs t (0,0) h
theorem Blk.cells {w:World} {g:Nat} {cs:List Value} {t:TypeId} (h:Blk w g cs.toArray t):∀j (hj:j<cs.length),w.cell? ⟨g,0+j,none⟩=some cs[j]:=fun j hj=>by
 rw [Nat.zero_add,h.rule];simp [hj]
def splice (cs:Array Value) (o:Nat) (new:Array Value):Array Value:=(cs.toList.take o++new.toList++cs.toList.drop (o+new.size)).toArray
theorem run_storeVar_at {P:Program} (w:World) (g o:Nat) (t ty:TypeId) (old cells:Array Value) (hg:Blk w g old t) (hi:(P.info? ty).map (·.size)=some cells.size)
  (ho:o+cells.size≤old.size) (h1:cells.toList.all (·.oneCell')=true):
  (storeVar ty ⟨g,o,none⟩ (.agg cells)).run P w= .ok () (w.setRow g (splice old o cells)):=by
 have:=run_storeCells_at (P:=P) g o t cells.toList 0 old w hg (by simpa using ho) (fun v hv=>List.all_eq_true.1 h1 v hv)
 cases hq:P.info? ty with
 |none=>simp [hq] at hi
 |some i=>
  have hs:cells.size=i.size:=by simp [hq] at hi;omega
  simp [storeVar,sizeOf,typeInfo,hq,Value.cells,hs,this,splice]
theorem wp_store_at {P:Program} {o:Oper} {a:Act} {w:World} {K:Act→World→Prop} {Q:Exit→Act→World→Prop} (ty:TypeId) {n:Nat} (hT:AggT P ty n) (x y:Operand) (ho:o.op= .store ty x y)
  {g o':Nat} {cells:Array Value} (hx:a.eval x= .pointer (some ⟨g,o',none⟩)) (hy:a.eval y= .agg cells) {t:TypeId} {old:Array Value} (hB:Blk w g old t) (hn:cells.size=n) (ho':o'+n≤old.size) (h1:cells.toList.all (·.oneCell')=true)
  (h:K (a.put o.dst undef) (w.setRow g (splice old o' cells))):o.wp P a w K Q:=by
 unfold Oper.wp execOp
 simp only [ho,hx,hy,Instr.storeAt,Instr.sureAddr,Sem.run_bind,Sem.run_pure,Result.andThen_ok,run_storeVar_at w g o' t ty old cells hB (by rw [hT.2,hn]) (by omega) h1]
 exact h
theorem wpList_store_at {P:Program} {ops:Array Oper} {rest:List Oper} {o:Oper} {a:Act} {w:World} {Q:Exit→Act→World→Prop} (hgd:o.guard=none) (ty:TypeId) {n:Nat} (hT:AggT P ty n) (x y:Operand) (ho:o.op= .store ty x y)
  {g o':Nat} {cells:Array Value} (hx:a.eval x= .pointer (some ⟨g,o',none⟩)) (hy:a.eval y= .agg cells) {t:TypeId} {old:Array Value} (hB:Blk w g old t) (hn:cells.size=n) (ho':o'+n≤old.size) (h1:cells.toList.all (·.oneCell')=true)
  (h:wpList P ops Q rest (a.put o.dst undef) (w.setRow g (splice old o' cells))):wpList P ops Q (o::rest) a w:=
 wpList_plain hgd fun _ hK=>wp_store_at ty hT x y ho hx hy hB hn ho' h1 (hK _ _ h)
theorem wpList_load_part {P:Program} {ops:Array Oper} {rest:List Oper} {o:Oper} {a:Act} {w:World} {Q:Exit→Act→World→Prop} (hgd:o.guard=none) (ty:TypeId) {n:Nat} (hT:AggT P ty n) (x:Operand) (ho:o.op= .load ty x)
  {g o':Nat} (hx:a.eval x= .pointer (some ⟨g,o',none⟩)) {t:TypeId} {cs:Array Value} (hB:Blk w g cs t) {part:List Value} (hp:(cs.toList.drop o').take n=part) (hn:part.length=n)
  (h:wpList P ops Q rest (a.put o.dst (.agg part.toArray)) w):wpList P ops Q (o::rest) a w:=
 wpList_load_as hgd ty hT x ho hx rfl (fun j hj=>by
  subst hp
  rw [hB.rule]
  have hj':=hj
  rw [List.length_take,List.length_drop] at hj'
  simp [List.getElem_take,List.getElem_drop]) hn h
def strOf (l:List UInt8):ByteArray:=⟨l.toArray⟩
theorem strOf_size (l:List UInt8):(strOf l).size=l.length:=by simp [strOf,ByteArray.size]
theorem run_string_of {P:Program} (w:World) {src dst e:TypeId} (hs:P.underlying src=some (.slice e)) (he:P.underlying e=some (.int .u8)) (hd:P.underlying dst=some .string)
  {a:Option Addr} {len c:Nat} {l:List UInt8} (h:BytesAt w a l) (hlen:l.length=len):
  (convert src dst (.slice a len c)).run P w= .ok (.string (strOf l)) w:=by
 subst hlen
 match a,h with
 |none,h=>
  have h0:l=[]:=by
   cases l with
   |nil=>rfl
   |cons u r=>obtain ⟨b,o,e,_⟩:=h 0 (by simp);cases e
  subst h0
  rw [run_convert_bytes_string w src dst e none _ c hs he hd];rfl
 |some ad,h=>
  refine run_convert_bytes_back w src dst e ad c l hs he hd fun j hj=> ?_
  obtain ⟨b,o,e,hc⟩:=h j (by simpa using hj)
  obtain rfl:=Option.some.inj e
  rw [Addr.add_mid,hc]
  simp [bv,U8]
theorem BytesAt.new (w:World) (cs:Array Value) (e:TypeId) (fr:Nat×Nat) (l:List UInt8) (hcs:cs=(l.map bv).toArray):BytesAt (w.alloc (.cells cs e fr)) (some ⟨w.heap.size,0,none⟩) l:=by
 subst hcs
 refine RowAt.mk fun i hi=> ?_
 rw [Nat.zero_add,World.cell?_alloc_mark]
 simp at hi
 simp [hi]
theorem bytes_came {w:World} {a:Option Addr} {len cap:Nat} {zs:List Int}
  (h:(a=none∧len=0∧cap=0∧zs=[])∨
   ∃x,a=some x∧len≤cap∧cap≤maxLen∧zs.length=cap∧(∀i,i<zs.length→w.cell? (x.add i)=some (.int .u8 (zs.getD i 0)))∧∀n∈zs,(Lit.int .u8 n).wf=true):
  ∃l:List UInt8,l.length=len∧BytesAt w a l∧len≤cap∧cap≤maxLen:=by
 rcases h with ⟨rfl,rfl,rfl,rfl⟩|⟨x,rfl,hl,hm,hz,hc,hw⟩
 ·exact ⟨[],rfl,RowAt.nil _ _,Nat.le_refl _,by unfold maxLen;omega⟩
 ·refine ⟨(zs.take len).map (fun n=>UInt8.ofNat n.toNat),by simp;omega,?_,hl,hm⟩
  intro i hi
  simp only [List.length_map,List.length_take] at hi
  obtain ⟨b,o,sp⟩:=x
  have h1:=hc i (by omega)
  have h0:=hc 0 (by omega)
  have hsp:sp=none:=by simpa [Addr.add] using World.cell?_spot h0
  subst hsp
  rw [Addr.add_mid] at h1
  refine ⟨b,o,rfl,h1.trans ?_⟩
  have hin:zs[i]'(by omega)∈zs:=List.getElem_mem _
  have hb:=hw _ hin
  simp only [Lit.wf,IntKind.min,IntKind.max,IntKind.signed,IntKind.bits,Bool.and_eq_true] at hb
  simp only [List.getElem_map,List.getElem_take,bv,U8,List.getD,List.getElem?_eq_getElem (show i<zs.length by omega),Option.getD_some]
  congr 2
  have:(UInt8.ofNat (zs[i]'(by omega)).toNat).toNat=(zs[i]'(by omega)).toNat:=by
   simp at hb
   rw [UInt8.toNat_ofNat'];omega
  rw [this]
  simp at hb
  omega
end
section
open Go.ChangeShapes Go.WideShapes Go.ChangeAt Go.RowKit
theorem weightsAll_mem {H:Type} {P:Program} {e:TypeId}:∀{l:List (DataW H)} {d:DataW H},d∈l→∀n∈d.weights P e,n∈DataW.weightsAll P e l
 |x::r,d,h,n,hn=>by
  simp only [DataW.weightsAll,List.mem_append]
  rcases List.mem_cons.1 h with rfl|h
  ·exact .inl hn
  ·exact .inr (weightsAll_mem h n hn)
theorem sized_in {H:Type} {P:Program} {ts:List TypeId} {ds:List (DataW H)} (h:(DataW.weightsEach P ts ds).all (·≤reachBytes)=true) {j:Nat} {t:TypeId} {d:DataW H} (ht:ts[j]? =some t) (hd:ds[j]? =some d):∀n∈d.weights P t,n≤reachBytes:=by
 intro n hn
 have:=List.all_eq_true.1 h n (DataW.weights_mem_each ht hd n hn)
 simpa using this
section
variable {H:Type} {enc:TypeId×Value→H} {P:Program} {W:World} {base:Nat} {held:Bool}
theorem came_bytes {t e:TypeId} {v:Value} {d:DataW H} {ps:List MemPlace} {r:Reach} {b0:Nat} (ht:P.underlying t=some (.slice e)) (he:P.underlying e=some (.int .u8)) (ce:P.cellsOf e=1)
  (hv:Value.okWide P W r b0 t v) (h:DataW.Trod enc P W base (fun _=>true) held t v d ps):
  ∃a len cap,∃l:List UInt8,v= .slice a len cap∧l.length=len∧BytesAt W a l∧len≤cap∧cap≤maxLen:=by
 obtain ⟨a,len,cap,rfl⟩:=okWide_slice ht hv
 obtain ⟨fuel,hf⟩:=h
 rcases open_ints ht he ce hf with ⟨hcs,_⟩|⟨x,l,c,zs,hcs,_,hl,hm,hz,_,hcell,hwz⟩
 ·simp [Value.cells] at hcs
  obtain ⟨rfl,rfl,rfl⟩:=hcs
  obtain ⟨l,h1,h2,h3,h4⟩:=bytes_came (w:=W) (a:=none) (len:=0) (cap:=0) (zs:=[]) (.inl ⟨rfl,rfl,rfl,rfl⟩)
  exact ⟨none,0,0,l,rfl,h1,h2,h3,h4⟩
 ·simp [Value.cells] at hcs
  obtain ⟨rfl,rfl,rfl⟩:=hcs
  obtain ⟨l,h1,h2,h3,h4⟩:=bytes_came (w:=W) (a:=some x) (len:=len) (cap:=cap) (zs:=zs) (.inr ⟨x,rfl,hl,hm,by simpa using hz,hcell,hwz⟩)
  exact ⟨some x,len,cap,l,rfl,h1,h2,h3,h4⟩
end
end
end Go.Proofs.YtioigihakjlopaaGreat
