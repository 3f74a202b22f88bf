/- Texts put together and cut to what is used: ImBytes, ImR, ImR2. -/
import Derived.Test.YtioigihakjlopaaGreatVK06
namespace Go.Proofs.YtioigihakjlopaaGreat
set_option linter.unusedVariables false
set_option linter.unusedSimpArgs false
section
open Go.RowKit
set_option maxRecDepth 20000
set_option maxHeartbeats 2000000 in
theorem actbytes_w (w:World) (p:ActionP) (h:ActionH) (ha:ActionAt w p h) (hz:(actionI p).length<100000000000):
  Calls Tryz.prog 76 #[actionVal p h] w fun e w'=>∃a c,e= .returned (.slice a (actionI p).length c)∧Own w' w.heap.size 5 1 a (actionI p).length c ((actionI p).map bv)∧Below w.heap.size w w':=by
 rw [actionVal_cells]
 go_enter Tryz.func76,Tryz.ntmps76
 go_upto_region 1 with (fail)
 obtain ⟨S,hS⟩:∃S,S=w.heap.size:=⟨_,rfl⟩
 rw [←hS]
 refine wp_forget (fun W=>Blk W S (actionCells p h).toArray 38∧Below w.heap.size w W∧S<W.heap.size) ⟨by rw [hS];exact Blk.new w _ _,by (try unfold Kept);repeat (first|assumption|exact Below.refl _ _|exact below_undrew (Below.refl _ _)|exact Below.mono (by assumption) (by first|(simp;done)|(simp;omega)|omega)|refine below_setRow ?_ (by first|(simp;done)|(simp;omega)|omega) _|refine Below.setCell ?_ (by first|(simp;done)|(simp;omega)|omega) _|refine Below.alloc ?_ (by first|(simp;done)|(simp;omega)|omega) _|refine below_drewN ?_ _|refine Below.drew ?_|refine below_undrew ?_|refine below_step ?_ (by assumption)),by rw [hS];simp⟩ ?_
 rintro W1 ⟨hs1,hb1,hl1⟩
 have HS:=Lib.hid hS
 clear hS
 go_upto_region 2 with (fail)
 obtain ⟨C,hC⟩:∃C,C=W1.heap.size:=⟨_,rfl⟩
 rw [←hC]
 refine wp_forget (fun W=>Blk W C #[.slice none 0 0,.int .i64 0,.bool false] 184∧Below W1.heap.size W1 W) ⟨by rw [hC];exact Blk.new W1 _ _,by (try unfold Kept);repeat (first|assumption|exact Below.refl _ _|exact below_undrew (Below.refl _ _)|exact Below.mono (by assumption) (by first|(simp;done)|(simp;omega)|omega)|refine below_setRow ?_ (by first|(simp;done)|(simp;omega)|omega) _|refine Below.setCell ?_ (by first|(simp;done)|(simp;omega)|omega) _|refine Below.alloc ?_ (by first|(simp;done)|(simp;omega)|omega) _|refine below_drewN ?_ _|refine Below.drew ?_|refine below_undrew ?_|refine below_step ?_ (by assumption))⟩ ?_
 rintro W2 ⟨hc2,hb2⟩
 have hb02:=below_step hb1 hb2
 have hq2:WAt W2 W1.heap.size ⟨C,none,0,[]⟩:=⟨by show W1.heap.size≤C;omega,hc2,Own.nil _ _ _ _⟩
 have hin:ActionIn W2 W1.heap.size p h:=((ActionIn.of ha).low hb02).mono hb1.size
 have cb:=action_w W2 W1.heap.size ⟨C,none,0,[]⟩ S p h hq2 hb2.size (hs1.old hb2) hin hl1 (by simp;omega)
 dsimp only at cb
 clear hC
 go_wp2_with fail
 refine cb.mono ?_
 clear cb
 rintro e W3 ⟨rfl,q',hbs,hs⟩
 have cc:=hs.at'.blk.rule
 unfold wcells at cc
 have hc':q'.c=C:=hs.c
 rw [hc'] at cc
 have hbq:q'.bs=actionI p:=by rw [hbs.out];simp
 have hb03:=hb1.trans ((hs.below hq2 hb2.size).mono hb1.size|>(Below.trans (hb2.mono hb1.size)))
 have HQ:=Lib.hid hbq
 have hrow:=hs.at'.row
 have HR:=Lib.hid hrow
 clear hbq hrow
 go_wp2_with fail
 go_ret
 refine ⟨q'.a,q'.cap,by rw [HQ.out];rfl,?_,hb03⟩
 have:=HR.out.lower hb1.size
 rw [HQ.out] at this
 exact this
structure RC where
 c:Nat
 a:Option Addr
 cap:Nat
 bs:List UInt8
 at_:Nat
def RC.to (q:RC) (a:Nat):RC:={q with at_:=a}
def rcells (q:RC):Array Value:= #[.slice q.a q.bs.length q.cap,.int .i64 (q.at_:Int),.bool true]
structure RAt (w:World) (B:Nat) (q:RC):Prop where
 ge:B≤q.c
 blk:Blk w q.c (rcells q) 184
 row:BytesAt w q.a q.bs
 low:InB B q.a q.bs.length
 le:q.at_≤q.bs.length
 max:q.bs.length≤1048576
def wrongP (p:Nat):List PanicEntry:=[{v:= .iface 218 (.agg #[.int .i64 (p:Int)]),recovered:=false}]
section
variable {w w' w'':World} {B:Nat} {q q' q'':RC}
theorem RAt.keep (h:RAt w B q) (hk:w'.heap[q.c]? =w.heap[q.c]?) (hb:Below B w w'):RAt w' B q:=
 ⟨h.ge,hk.trans h.blk,RowAt.low h.row h.low (fun h0=>by rw [List.eq_nil_of_length_eq_zero h0];rfl) hb,h.low,h.le,h.max⟩
theorem RAt.old (h:RAt w B q) (hb:Below w.heap.size w w') (hB:B≤w.heap.size):RAt w' B q:=h.keep (hb.block _ h.blk.lt) (hb.mono hB)
structure RGot (B:Nat) (w:World) (q:RC) (w':World) (q':RC) (xb:Nat) (cs:Array Value) (t:TypeId):Prop where
 at':RAt w' B q'
 turn:Turn (fun x=>x=q.c∨x=xb) w w'
 blk:Blk w' xb cs t
theorem RGot.below {xb:Nat} {cs:Array Value} {t:TypeId} (h:RGot B w q w' q' xb cs t) (hq:RAt w B q) (hx:B≤xb) (hB:B≤w.heap.size):Below B w w':=h.turn.below (fun x hx2=>by
 rcases hx2 with rfl|rfl
 ·exact hq.ge
 ·exact hx) hB
theorem Blk.uniq {b:Nat} {cs cs':Array Value} {t:TypeId} (h:Blk w b cs t) (h':Blk w b cs' t):cs=cs':=by
 have h1:w.heap[b]? =_:=h
 have h2:w.heap[b]? =_:=h'
 rw [h1] at h2
 simpa using h2
structure RBad (w:World) (q:RC) (w':World) (xb:Nat) (t:TypeId):Prop where
 turn:Turn (fun x=>x=q.c∨x=xb) w w'
 blk:∀cs,Blk w xb cs t→∃cs',Blk w' xb cs' t∧cs'.size=cs.size
variable {xb Y:Nat} {t tY:TypeId} {cs cs':Array Value}
theorem RBad.below (h:RBad w q w' xb t) (hq:RAt w B q) (hx:B≤xb) (hB:B≤w.heap.size):Below B w w':=h.turn.below (fun x hx2=>by
 rcases hx2 with rfl|rfl
 ·exact hq.ge
 ·exact hx) hB
theorem RBad.keep (ht:Turn (fun x=>x=q.c) w w') (hne:xb≠q.c) (hl:xb<w.heap.size):RBad w q w' xb t:=
 ⟨ht.mono fun _ h=> .inl h,fun cs h=>⟨cs,(ht.block xb hl hne).trans h,rfl⟩⟩
theorem RBad.of (hx:Blk w xb cs t) (ht:Turn (fun x=>x=q.c∨x=xb) w w') (hx':Blk w' xb cs' t) (hs:cs'.size=cs.size):RBad w q w' xb t:=
 ⟨ht,fun c h=>⟨cs',hx',by rw [hs,hx.uniq h]⟩⟩
theorem RBad.after (h:RGot B w q w' q' xb cs' t) (hx:Blk w xb cs t) (hs:cs'.size=cs.size) (h2:RBad w' q'' w'' xb t) (hc:q''.c=q.c):RBad w q w'' xb t:=by
 obtain ⟨c2,h3,h4⟩:=h2.blk _ h.blk
 exact RBad.of hx (h.turn.trans h2.turn fun x hx=> .inl (by rwa [hc] at hx)) h3 (h4.trans hs)
theorem RBad.pre {w0:World} (hb:Below w0.heap.size w0 w) (h:RBad w q w' xb t):RBad w0 q w' xb t:=
 ⟨(Turn.of_below (F:=fun x=>x=q.c∨x=xb) hb).trans h.turn (fun _ hk=> .inl hk),fun cs hx=>h.blk cs (hx.old hb)⟩
theorem local_turn {w1:World} (hb:Below w.heap.size w w1) (ht:Turn (fun x=>x=q'.c∨x=Y) w1 w') (hY:w.heap.size≤Y) (hc:q'.c=q.c):Turn (fun x=>x=q.c) w w':=
 (Turn.of_below (F:=fun x=>x=q.c) hb).trans ht fun x hx=>by
  rcases hx with rfl|rfl
  ·exact .inl hc
  ·exact .inr hY
theorem RBad.loc {w1:World} (hb:Below w.heap.size w w1) (h:RBad w1 q' w' Y tY) (hY:w.heap.size≤Y) (hc:q'.c=q.c) (hne:xb≠q.c) (hl:xb<w.heap.size):RBad w q w' xb t:=RBad.keep (local_turn hb h.turn hY hc) hne hl
theorem RGot.loc {w1:World} (hb:Below w.heap.size w w1) (h:RGot B w1 q' w' q'' Y cs tY) (hY:w.heap.size≤Y) (hc:q'.c=q.c) (hne:xb≠q.c) (hl:xb<w.heap.size):RBad w q w' xb t:=RBad.keep (local_turn hb h.turn hY hc) hne hl
theorem RBad.drewN (h:RBad w q w' xb t) (n:Nat):RBad w q (w'.drewN n) xb t:=⟨h.turn.drewN n,h.blk⟩
end
set_option maxHeartbeats 2000000 in
theorem byte_r (w:World) (B:Nat) (q:RC) (yb:Nat) (z:Int) (hq:RAt w B q) (hB:B≤w.heap.size) (hy:Blk w yb #[.int .u8 z] 5) (hyB:B≤yb):
  Calls Tryz.prog 179 #[.pointer (some ⟨q.c,0,none⟩),.pointer (some ⟨yb,0,none⟩)] w fun e w'=>(q.at_=q.bs.length→e= .panicked (wrongP q.at_)∧RBad w q w' yb 5)∧(∀hl:q.at_<q.bs.length,e= .returned (.tuple #[])∧RGot B w q w' (q.to (q.at_+1)) yb #[.int .u8 (U8 q.bs[q.at_])] 5):=by
 have hc:=hq.blk.rule
 unfold rcells at hc
 have hcl:=hq.blk.lt
 have hyl:=hy.lt
 have hmx:=hq.max
 have hle:=hq.le
 by_cases hl:q.at_<q.bs.length
 ·obtain ⟨b,o,ha,hcell⟩:=hq.row q.at_ (by simpa using hl)
  have hbl:b<w.heap.size:=World.block_lt_of_cell? w _ hcell
  have hbB:b<B:=hq.low (by omega) _ ha
  rw [List.getElem_map] at hcell
  unfold bv at hcell
  rw [ha] at hc
  have t0:((q.at_:Int)==(q.bs.length:Int))=false:=by simp;omega
  go_enter Tryz.func179,Tryz.ntmps179
  go_wp2_with fail
  have l0:∀W,Old w.drew W→∀i,W.cell? ⟨q.c,i,none⟩=(rcells q)[i]? :=fun W hW i=>by rw [hW.cell (p:=⟨q.c,i,none⟩) hcl];exact hq.blk.rule i
  have l1:∀W,Old w.drew W→W.cell? ⟨q.c,0,none⟩=some (.slice (some ⟨b,o,none⟩) q.bs.length q.cap):=fun W hW=>by rw [l0 W hW 0];unfold rcells;rw [ha];rfl
  have l2:∀W,Old w.drew W→W.cell? ⟨q.c,1,none⟩=some (.int .i64 (q.at_:Int)):=fun W hW=>by rw [l0 W hW 1];rfl
  clear l0
  refine wp_region_old (0::1::2::3::4::5::6::7::8::9::[]) (by kernel_rfl) (by kernel_rfl) (fun c a d v w h=>by cases d<;>exact h) ?_
  repeat (first|(refine lex_skip rfl (by rfl) ?_;simp only [Act.put,List.setIfInBounds_toArray,List.set])|(refine lex_quiet (v:= ?_) rfl rfl (by rfl) ?_ ?_;rotate_left;(intro W hW;go_simp);(try with_reducible rfl);simp only [Act.put,List.setIfInBounds_toArray,List.set]))
  refine lex_nil ?_
  go_upto_region 4 with (fail)
  have hcl2:q.c<w.drew.heap.size:=hcl
  clear l1 l2
  have hb1:Below w.heap.size w w.drew:=by (try unfold Kept);repeat (first|assumption|exact Below.refl _ _|exact below_undrew (Below.refl _ _)|exact Below.mono (by assumption) (by first|(simp;done)|(simp;omega)|omega)|refine below_setRow ?_ (by first|(simp;done)|(simp;omega)|omega) _|refine Below.setCell ?_ (by first|(simp;done)|(simp;omega)|omega) _|refine Below.alloc ?_ (by first|(simp;done)|(simp;omega)|omega) _|refine below_drewN ?_ _|refine Below.drew ?_|refine below_undrew ?_|refine below_step ?_ (by assumption))
  obtain ⟨w1,hw1⟩:∃W,W=w.drew:=⟨_,rfl⟩
  rw [←hw1] at hb1⊢
  have hq1:=hq.old hb1 hB
  have hy1:=hy.old hb1
  have hcell1:w1.cell? ⟨b,o+q.at_,none⟩=some (.int .u8 (U8 q.bs[q.at_])):=by rw [hb1.cell (p:=⟨b,o+q.at_,none⟩) hbl];exact hcell
  clear hw1
  have hbl1:=Nat.lt_of_lt_of_le hbl hb1.size
  have hcl1:=hq1.blk.lt
  have hyl1:=hy1.lt
  have l0:∀W,Old w1.drew W→∀i,W.cell? ⟨q.c,i,none⟩=(rcells q)[i]? :=fun W hW i=>by rw [hW.cell (p:=⟨q.c,i,none⟩) hcl1];exact hq1.blk.rule i
  have l1:∀W,Old w1.drew W→W.cell? ⟨q.c,0,none⟩=some (.slice (some ⟨b,o,none⟩) q.bs.length q.cap):=fun W hW=>by rw [l0 W hW 0];unfold rcells;rw [ha];rfl
  have l2:∀W,Old w1.drew W→W.cell? ⟨q.c,1,none⟩=some (.int .i64 (q.at_:Int)):=fun W hW=>by rw [l0 W hW 1];rfl
  have l3:∀W,Old w1.drew W→W.cell? ⟨b,o+q.at_,none⟩=some (.int .u8 (U8 q.bs[q.at_])):=fun W hW=>by rw [hW.cell (p:=⟨b,o+q.at_,none⟩) hbl1];exact hcell1
  obtain ⟨y,hyd⟩:∃y,y=q.bs[q.at_]:=⟨_,rfl⟩
  rw [←hyd] at l3
  have HYD:=Lib.hid hyd
  clear hyd
  have cy:=hy1.rule
  have fy:=hy1.free
  clear l0 hcell hcell1
  refine wp_region_treeR true Old Old.refl Old.trans (.step 0 (.step 1 (.step 2 (.step 3 (.step 4 (.step 5 (.step 6 (.step 7 (.step 8 (.step 9 (.step 10 (.step 11 (.step 12 .done))))))))))))) (by kernel_rfl) (by kernel_rfl) (fun c a d v w h=>by cases d<;>exact h) ?_
  repeat (first|(refine tree_skip rfl (by rfl) ?_;simp only [Act.put,List.setIfInBounds_toArray,List.set])|(refine tree_quiet (v:= ?_) rfl rfl (by rfl) ?_ ?_;rotate_left;(intro W hW;go_simp);(try with_reducible rfl);simp only [Act.put,List.setIfInBounds_toArray,List.set]))
  refine tree_store rfl rfl (by rfl) (fun K hK=> ?_);go_wp2_with fail;refine tree_done ?_
  go_upto_region 5 with (fail)
  have hne:yb≠q.c:=hy1.ne hq1.blk (by decide)
  refine wp_forget (fun W=>Blk W yb #[.int .u8 (U8 y)] 5∧RAt W B q∧Turn (fun x=>x=q.c∨x=yb) w W) ⟨?_,?_,?_⟩ ?_
  ·exact (hy1.set 0 (.int .u8 (U8 y))).drew
  ·exact hq1.keep (heap_setCell_other _ _ _ _ (Ne.symm hne)) ((Below.refl _ _).setCell hyB _).drew
  ·exact ((Turn.of_below hb1).setCell (.inl (.inr rfl)) _).drew
  rintro W2 ⟨hy2,hq2,ht2⟩
  have c2:=hq2.blk.rule
  have f2:=hq2.blk.free
  unfold rcells at c2
  have hadd:IntKind.i64.wrap ((q.at_:Int)+1)=((q.at_+1:Nat):Int):=by rw [IntKind.wrap_i64];omega
  clear l1 l2 l3 cy fy hc hb1 hbl1 hcl1 hyl1
  go_wp2_with fail
  refine bodyPost_end (v:= .tuple #[]) (results_none rfl _ _ _) rfl ⟨fun e=>absurd e (Nat.ne_of_lt hl),fun _=>⟨rfl,⟨⟨hq.ge,?_,?_,hq.low,hl,hmx⟩,ht2.setCell (.inl (.inl rfl)) _,?_⟩⟩⟩
  ·have:=hq2.blk.set 1 (.int .i64 ((q.at_+1:Nat):Int))
   unfold rcells at this
   simpa [rcells,RC.to,ha] using this
  ·exact RowAt.low hq2.row hq2.low (fun h0=>by show q.bs.map bv=[];rw [List.eq_nil_of_length_eq_zero h0];rfl) ((Below.refl _ _).setCell hq.ge _)
  ·rw [←HYD.out]
   exact (heap_setCell_other _ _ _ _ hne).trans hy2
 ·have he:q.at_=q.bs.length:=by omega
  have t0:((q.at_:Int)==(q.bs.length:Int))=true:=by simp [he]
  have HE:=Lib.hid he
  have l0:∀W,Old w.drew W→∀i,W.cell? ⟨q.c,i,none⟩=(rcells q)[i]? :=fun W hW i=>by rw [hW.cell (p:=⟨q.c,i,none⟩) hcl];exact hq.blk.rule i
  have l1:∀W,Old w.drew W→W.cell? ⟨q.c,0,none⟩=some (.slice q.a q.bs.length q.cap):=fun W hW=>by rw [l0 W hW 0];rfl
  have l2:∀W,Old w.drew W→W.cell? ⟨q.c,1,none⟩=some (.int .i64 (q.at_:Int)):=fun W hW=>by rw [l0 W hW 1];rfl
  clear l0 he
  go_enter Tryz.func179,Tryz.ntmps179
  go_wp2_with fail
  refine wp_region_old (0::1::2::3::4::5::6::7::8::9::[]) (by kernel_rfl) (by kernel_rfl) (fun c a d v w h=>by cases d<;>exact h) ?_
  repeat (first|(refine lex_skip rfl (by rfl) ?_;simp only [Act.put,List.setIfInBounds_toArray,List.set])|(refine lex_quiet (v:= ?_) rfl rfl (by rfl) ?_ ?_;rotate_left;(intro W hW;go_simp);(try with_reducible rfl);simp only [Act.put,List.setIfInBounds_toArray,List.set]))
  refine lex_nil ?_
  go_wp2_with fail
  exact ⟨rfl,fun _=>⟨rfl,RBad.keep ((Turn.refl _ _).drew) (hy.ne hq.blk (by decide)) hyl⟩,fun hlt=>absurd hlt hl⟩
theorem i64_of_u64 (a:BitVec 64):IntKind.i64.wrap (U64 a)=a.toInt:=by
 rw [IntKind.wrap_i64]
 unfold U64
 have:=a.isLt
 rw [BitVec.toInt_eq_toNat_cond]
 split<;>omega
theorem rdB_snoc (l:List UInt8) (y:UInt8):rdB (l++ [y])=(rdB l<<<8|||y.toBitVec.setWidth 64):=by
 unfold rdB
 rw [List.foldl_append]
 rfl
theorem RGot.chain {w w' w'':World} {B:Nat} {q q' q'':RC} {xb:Nat} {cs cs':Array Value} {t:TypeId} (h:RGot B w q w' q' xb cs t) (h':RGot B w' q' w'' q'' xb cs' t) (hc:q'.c=q.c):RGot B w q w'' q'' xb cs' t:=
 ⟨h'.at',h.turn.trans h'.turn (fun k hk=> .inl (by rwa [hc] at hk)),h'.blk⟩
theorem ofInt_wrap64 (x:Int):BitVec.ofInt 64 (IntKind.u64.wrap x)=BitVec.ofInt 64 x:=by
 apply BitVec.eq_of_toNat_eq
 rw [BitVec.toNat_ofInt,BitVec.toNat_ofInt]
 simp only [IntKind.wrap,IntKind.bits,IntKind.signed]
 simp
theorem u64_wrap (x:BitVec 64):IntKind.u64.wrap (x.toNat:Int)=U64 x:=by
 have:=x.isLt
 simp only [U64,IntKind.wrap,IntKind.bits,IntKind.signed]
 simp
 omega
theorem bits_or64 (x y:Int):bits .or .u64 x y=U64 (BitVec.ofInt 64 x|||BitVec.ofInt 64 y):=u64_wrap _
theorem or_step (a:BitVec 64) (y:UInt8):bits .or .u64 (IntKind.u64.wrap (U64 a*256)) (IntKind.u64.wrap (U8 y))=U64 (a<<<8|||y.toBitVec.setWidth 64):=by
 rw [bits_or64,ofInt_wrap64,ofInt_wrap64]
 congr 2
 ·apply BitVec.eq_of_toNat_eq
  rw [BitVec.toNat_ofInt,BitVec.toNat_shiftLeft,Nat.shiftLeft_eq]
  unfold U64
  omega
 ·apply BitVec.eq_of_toNat_eq
  rw [BitVec.toNat_ofInt,BitVec.toNat_setWidth]
  unfold U8
  have h:y.toBitVec.toNat=y.toNat:=rfl
  rw [h]
  omega
def NumR (w:World) (B:Nat) (q:RC) (f:Nat) (v4 v5:Value) (wr:World):Prop:=
 ∃(k:Nat),k+f=8∧v5= .int .i64 (56-8*(k:Int))∧v4= .int .u64 (U64 (rdB ((q.bs.drop q.at_).take k)))∧RAt wr B (q.to (q.at_+k))∧Turn (fun x=>x=q.c) w wr
set_option maxHeartbeats 2000000 in
theorem num_r (w:World) (B:Nat) (q:RC) (xb i:Nat) (cs:Array Value) (t:TypeId) (v:Int) (hq:RAt w B q) (hB:B≤w.heap.size) (hx:Blk w xb cs t) (hi:cs[i]? =some (.int .i64 v)) (hxB:B≤xb) (hxc:xb≠q.c):
  Calls Tryz.prog 148 #[.pointer (some ⟨q.c,0,none⟩),.pointer (some ⟨xb,i,none⟩)] w fun e w'=>(q.bs.length<q.at_+8→e= .panicked (wrongP q.bs.length)∧RBad w q w' xb t)∧
   (q.at_+8≤q.bs.length→e= .returned (.tuple #[])∧RGot B w q w' (q.to (q.at_+8)) xb (cs.setIfInBounds i (.int .i64 (rdB ((q.bs.drop q.at_).take 8)).toInt)) t):=by
 have hxl:=hx.lt
 have hmx:=hq.max
 go_enter Tryz.func148,Tryz.ntmps148
 go_wp2_with fail
 go_loopg [4,5] 8 (NumR w B q)
 case atStart=>exact ⟨0,rfl,rfl,by simp [rdB,U64],hq,Turn.refl _ _⟩
 case round=>
  obtain ⟨k,hk,rfl,rfl,hqr,htr⟩:=hrel
  have hxr:Blk wr xb cs t:=(htr.block xb hxl hxc).trans hx
  have cx:wr.cell? ⟨xb,i,none⟩=some (.int .i64 v):=(hxr.rule i).trans hi
  have hle:=hqr.le
  unfold RC.to at hle
  dsimp only at hle
  have hBr:=Nat.le_trans hB htr.size
  by_cases hlt:k<8
  ·have t0:decide ((0:Int)≤56-8*(k:Int))=true:=by simp;omega
   have v3:(0:Int)≤56-8*(k:Int):=by omega
   have v4:(56-8*(k:Int)).toNat=56-8*k:=by omega
   have v5:IntKind.i64.wrap (56-8*(k:Int)-8)=56-8*((k+1:Nat):Int):=by rw [IntKind.wrap_i64];omega
   go_upto_region 5 with fail
   obtain ⟨z,hzd⟩:∃z,z=IntKind.u64.wrap v/2^(56-8*k)%256:=⟨_,rfl⟩
   rw [←hzd]
   clear hzd v4
   have hb1:Below wr.heap.size wr (wr.alloc (.cells #[.int .u8 z] 5)):=(Below.refl _ _).alloc (Nat.le_refl _) _
   have hy1:Blk (wr.alloc (.cells #[.int .u8 z] 5)) wr.heap.size #[.int .u8 z] 5:=Blk.new wr _ _
   have cb:=byte_r _ B (q.to (q.at_+k)) wr.heap.size z (hqr.old hb1 hBr) (Nat.le_trans hBr hb1.size) hy1 hBr
   have hcc:(q.to (q.at_+k)).c=q.c:=rfl
   rw [hcc] at cb
   by_cases hmore:q.at_+k<q.bs.length
   ·go_wp2_with fail
    refine cb.mono ?_
    clear cb
    rintro e w2 ⟨-,hr⟩
    obtain ⟨rfl,hg⟩:=hr hmore
    have cy:=hg.blk.rule
    obtain ⟨y,hyd⟩:∃y,y=q.bs[q.at_+k]:=⟨_,rfl⟩
    have cy2:w2.cell? ⟨wr.heap.size,0,none⟩=some (.int .u8 (U8 y)):=by rw [hyd];exact cy 0
    clear cy
    have htk:(q.bs.drop q.at_).take (k+1)=(q.bs.drop q.at_).take k++ [y]:=by
     rw [List.take_succ_eq_append_getElem (by rw [List.length_drop];omega),hyd]
     simp
    have HTK:=Lib.hid htk
    have ht2:Turn (fun x=>x=q.c) w w2:=htr.trans ((Turn.of_below (F:=fun x=>x=q.c) hb1).trans hg.turn fun x hx=>by
     rcases hx with rfl|rfl
     ·exact .inl rfl
     ·exact .inr (Nat.le_refl _)) fun _ hk=> .inl hk
    have hq2:RAt w2 B (q.to (q.at_+(k+1))):=hg.at'
    clear htk hyd hg hxr
    go_wp2_with fail
    go_roundg (gk-1)
    case measure=>omega
    case rel=>
     refine ⟨k+1,by omega,by go_num,?_,hq2,ht2⟩
     rw [HTK.out,rdB_snoc]
     exact congrArg _ (or_step _ y)
   ·go_wp2_with fail
    refine cb.mono ?_
    clear cb
    rintro e w2 ⟨hr,-⟩
    have hat:q.at_+k=q.bs.length:=by omega
    obtain ⟨rfl,hb2⟩:=hr hat
    have hb3:RBad w q w2 xb t:=RBad.keep (htr.trans ((Turn.of_below (F:=fun x=>x=q.c) hb1).trans hb2.turn fun x hx=>by
     rcases hx with rfl|rfl
     ·exact .inl rfl
     ·exact .inr (Nat.le_refl _)) fun _ hk=> .inl hk) hxc hxl
    have HAT:=Lib.hid hat
    clear hat
    go_wp2_with fail
    refine ⟨rfl,fun _=>⟨?_,hb3⟩,fun h=> ?_⟩
    ·have e:(q.to (q.at_+k)).at_=q.bs.length:=HAT.out
     rw [e]
    ·have:=HAT.out;omega
  ·have hk8:k=8:=by omega
   subst hk8
   have cc:=hqr.blk.rule
   unfold rcells at cc
   have hcc:(q.to (q.at_+8)).c=q.c:=rfl
   rw [hcc] at cc
   have fx:=hxr.free
   have hn:=i64_of_u64 (rdB ((q.bs.drop q.at_).take 8))
   go_wp2_with fail
   refine bodyPost_end (v:= .tuple #[]) (results_none rfl _ _ _) rfl ⟨fun h=>by omega,fun _=>⟨rfl,?_⟩⟩
   refine ⟨hqr.keep (heap_setCell_other _ _ _ _ (Ne.symm hxc)) ((Below.refl _ _).setCell hxB _),(htr.mono fun _ h=> .inl h).setCell (.inl (.inr rfl)) _,?_⟩
   have:=hxr.set i (.int .i64 (rdB ((q.bs.drop q.at_).take 8)).toInt)
   exact this
def putRow (cs:Array Value) (i:Nat):List Value→Array Value
 | []=>cs
 |v::l=>putRow (cs.setIfInBounds i v) (i+1) l
theorem putRow_append:∀(l m:List Value) (cs:Array Value) (i:Nat),putRow cs i (l++m)=putRow (putRow cs i l) (i+l.length) m
 | [],m,cs,i=>rfl
 |v::l,m,cs,i=>by
  rw [List.cons_append,putRow,putRow,putRow_append l m,List.length_cons,Nat.add_assoc,Nat.add_comm 1]
theorem putRow_size:∀(l:List Value) (cs:Array Value) (i:Nat),(putRow cs i l).size=cs.size
 | [],cs,i=>rfl
 |v::l,cs,i=>by rw [putRow,putRow_size l];simp
theorem putRow_other:∀(l:List Value) (cs:Array Value) (i j:Nat),j<i∨i+l.length≤j→(putRow cs i l)[j]? =cs[j]?
 | [],cs,i,j,_=>rfl
 |v::l,cs,i,j,h=>by
  rw [putRow,putRow_other l _ _ _ (by simp at h;omega)]
  rw [Array.getElem?_setIfInBounds]
  rw [if_neg (by simp at h;omega)]
theorem putRow_get:∀(l:List Value) (cs:Array Value) (i j:Nat),i+l.length≤cs.size→∀hj:j<l.length,(putRow cs i l)[i+j]? =some l[j]
 |v::l,cs,i,0,h,_=>by
  rw [putRow,putRow_other l _ _ _ (by omega)]
  rw [List.length_cons] at h
  rw [Array.getElem?_setIfInBounds]
  simp
  omega
 |v::l,cs,i,j+1,h,hj=>by
  rw [List.length_cons] at h
  have:=putRow_get l (cs.setIfInBounds i v) (i+1) j (by simp;omega) (by simpa using hj)
  rw [putRow,show i+(j+1)=i+1+j by omega,this]
  rfl
theorem putRow_all {cs:Array Value} {l:List Value} (h:cs.size=l.length):putRow cs 0 l=l.toArray:=by
 apply Array.ext_getElem?
 intro j
 by_cases hj:j<l.length
 ·have:=putRow_get l cs 0 j (by omega) hj
  rw [Nat.zero_add] at this
  rw [this]
  simp [hj]
 ·rw [Array.getElem?_eq_none (by rw [putRow_size];omega),Array.getElem?_eq_none (by simpa using hj)]
def HasRow (cs:Array Value) (i:Nat) (l:List Value):Prop:=∀j (hj:j<l.length),cs[i+j]? =some l[j]
def numAt (bs:List UInt8) (a:Nat):Int:=(rdB ((bs.drop a).take 8)).toInt
def RRes {α:Type} (B:Nat) (w:World) (q:RC) (r:Rd α) (f:α→Array Value) (xb:Nat) (t:TypeId) (e:Ending) (w':World):Prop:=match r with
 | .error p=>e= .panicked (wrongP p)∧RBad w q w' xb t
 | .ok (v,a)=>e= .returned (.tuple #[])∧RGot B w q w' (q.to a) xb (f v) t
abbrev numsV (bs:List UInt8) (a m:Nat):List Value:=(List.range m).map fun j=> .int .i64 (numAt bs (a+8*j))
def NumsR (w:World) (B:Nat) (q:RC) (xb i:Nat) (cs:Array Value) (t:TypeId) (m:Nat) (f:Nat) (v8:Value) (wr:World):Prop:=
 ∃k:Nat,k+f=m∧v8= .int .i64 (k:Int)∧q.at_+8*k≤q.bs.length∧RGot B w q wr (q.to (q.at_+8*k)) xb (putRow cs i (numsV q.bs q.at_ k)) t
set_option maxHeartbeats 2000000 in
theorem nums_r (w:World) (B:Nat) (q:RC) (g m xb i:Nat) (cs:Array Value) (t:TypeId) (hq:RAt w B q) (hB:B≤w.heap.size) (hg:Blk w g ((List.range m).map fun j=>Value.pointer (some ⟨xb,i+j,none⟩)).toArray 209) (hgc:g≠q.c) (hgx:g≠xb) (hx:Blk w xb cs t) (hi:∀j,j<m→∃v,cs[i+j]? =some (.int .i64 v)) (hxB:B≤xb) (hxc:xb≠q.c) (hm:m≤8):
  Calls Tryz.prog 146 #[.pointer (some ⟨q.c,0,none⟩),.slice (some ⟨g,0,none⟩) m m] w fun e w'=>(q.bs.length<q.at_+8*m→e= .panicked (wrongP q.bs.length)∧RBad w q w' xb t)∧
   (q.at_+8*m≤q.bs.length→e= .returned (.tuple #[])∧RGot B w q w' (q.to (q.at_+8*m)) xb (putRow cs i (numsV q.bs q.at_ m)) t):=by
 have hmx:=hq.max
 go_enter Tryz.func146,Tryz.ntmps146
 go_wp2_with fail
 go_loopg [8] m (NumsR w B q xb i cs t m)
 case atStart=>exact ⟨0,by omega,rfl,hq.le,hq,Turn.refl _ _,hx⟩
 case round=>
  obtain ⟨k,hk,rfl,hle,hr⟩:=hrel
  by_cases hlt:k<m
  ·have t0:decide ((k:Int)<(m:Int))=true:=by simp;omega
   have hgr:Blk wr g _ _:=(hr.turn.block g hg.lt (by rintro (h|h);exact hgc h;exact hgx h)).trans hg
   have cg:wr.cell? ⟨g,k,none⟩=some (.pointer (some ⟨xb,i+k,none⟩)):=by rw [hgr.rule];simp [hlt]
   obtain ⟨v,hv⟩:=hi k hlt
   have hv2:(putRow cs i (numsV q.bs q.at_ k))[i+k]? =some (.int .i64 v):=by rw [putRow_other _ _ _ _ (by simp)];exact hv
   have cb:=num_r wr B (q.to (q.at_+8*k)) xb (i+k) _ t v hr.at' (Nat.le_trans hB hr.turn.size) hr.blk hv2 hxB hxc
   have hcc:(q.to (q.at_+8*k)).c=q.c:=rfl
   rw [hcc] at cb
   clear hgr hv hv2
   go_wp2_with fail
   refine cb.mono ?_
   clear cb
   rintro e w2 ⟨h1,h2⟩
   by_cases hmore:q.at_+8*k+8≤q.bs.length
   ·obtain ⟨rfl,hg2⟩:=h2 hmore
    have hr2:RGot B w q w2 (q.to (q.at_+8*(k+1))) xb (putRow cs i (numsV q.bs q.at_ (k+1))) t:=by
     have e1:putRow cs i (numsV q.bs q.at_ (k+1))=(putRow cs i (numsV q.bs q.at_ k)).setIfInBounds (i+k) (.int .i64 (numAt q.bs (q.at_+8*k))):=by
      unfold numsV
      rw [List.range_succ,List.map_append,putRow_append]
      simp [putRow]
     rw [e1]
     exact ⟨hg2.at',(hr.chain (q'':=q.to (q.at_+8*k+8)) hg2 rfl).turn,hg2.blk⟩
    clear h1 h2 hg2
    go_wp2_with fail
    go_roundg (gk-1)
    case measure=>omega
    case rel=>exact ⟨k+1,by omega,by go_num,by omega,hr2⟩
   ·obtain ⟨rfl,hb2⟩:=h1 (by show q.bs.length<q.at_+8*k+8;omega)
    have hb3:RBad w q w2 xb t:=RBad.after hr hx (putRow_size _ _ _) hb2 rfl
    clear h1 h2
    go_wp2_with fail
    exact ⟨rfl,fun _=>⟨rfl,hb3⟩,fun h=>by omega⟩
  ·have hkm:k=m:=by omega
   subst hkm
   have t0:decide ((k:Int)<(k:Int))=false:=by simp
   go_wp2_with fail
   refine bodyPost_end (v:= .tuple #[]) (results_none rfl _ _ _) rfl ⟨fun h=>by omega,fun _=>⟨rfl,hr⟩⟩
set_option maxHeartbeats 2000000 in
theorem small_r (w:World) (B:Nat) (q:RC) (xb i:Nat) (cs:Array Value) (t:TypeId) (z:Int) (hq:RAt w B q) (hB:B≤w.heap.size) (hx:Blk w xb cs t) (hi:cs[i]? =some (.int .i8 z)) (hxB:B≤xb) (hxc:xb≠q.c):
  Calls Tryz.prog 145 #[.pointer (some ⟨q.c,0,none⟩),.pointer (some ⟨xb,i,none⟩)] w (RRes B w q (rdSmall q.bs q.at_) (fun n=>cs.setIfInBounds i (.int .i8 n)) xb t):=by
 have hxl:=hx.lt
 have hcl:=hq.blk.lt
 go_enter Tryz.func145,Tryz.ntmps145
 go_wp2_with fail
 have r1:∀W,Old w.drew W→W.cell? ⟨q.c,1,none⟩=some (.int .i64 (q.at_:Int)):=fun W hW=>by rw [hW.cell (p:=⟨q.c,1,none⟩) hcl];exact hq.blk.rule 1
 have r2:∀W,Old w.drew W→W.cell? ⟨xb,i,none⟩=some (.int .i8 z):=fun W hW=>by rw [hW.cell (p:=⟨xb,i,none⟩) hxl];exact (hx.rule i).trans hi
 refine wp_region_treeR true Old Old.refl Old.trans (.step 0 (.step 1 (.step 2 (.step 3 (.step 4 (.step 5 (.step 6 (.step 7 (.step 8 (.step 9 (.step 10 .done))))))))))) (by kernel_rfl) (by kernel_rfl) (fun c a d v w h=>by cases d<;>exact h) ?_
 repeat (first|(refine tree_skip rfl (by rfl) ?_;simp only [Act.put,List.setIfInBounds_toArray,List.set])|(refine tree_quiet (v:= ?_) rfl rfl (by rfl) ?_ ?_;rotate_left;(intro W hW;go_simp);(try with_reducible rfl);simp only [Act.put,List.setIfInBounds_toArray,List.set]))
 refine tree_loud rfl rfl (by rfl) (fun K hK=> ?_);go_wp2_with fail
 refine hK _ _ ((Below.refl _ _).alloc (Nat.le_refl _) _) ?_
 clear hK K r1 r2
 repeat (first|(refine tree_skip rfl (by rfl) ?_;simp only [Act.put,List.setIfInBounds_toArray,List.set])|(refine tree_quiet (v:= ?_) rfl rfl (by rfl) ?_ ?_;rotate_left;(intro W hW;go_simp);(try with_reducible rfl);simp only [Act.put,List.setIfInBounds_toArray,List.set]))
 refine tree_store rfl rfl (by rfl) (fun K hK=> ?_);go_wp2_with fail;refine tree_done ?_
 go_upto_region 1 with (fail)
 obtain ⟨Y,hY⟩:∃Y,Y=w.heap.size:=⟨_,rfl⟩
 rw [←hY]
 refine wp_forget (fun W=>(∃y:Int,Blk W Y #[.int .i64 y] 3)∧Below w.heap.size w W) ⟨⟨_,by rw [hY];exact (Blk.new w _ _).drew⟩,by (try unfold Kept);repeat (first|assumption|exact Below.refl _ _|exact below_undrew (Below.refl _ _)|exact Below.mono (by assumption) (by first|(simp;done)|(simp;omega)|omega)|refine below_setRow ?_ (by first|(simp;done)|(simp;omega)|omega) _|refine Below.setCell ?_ (by first|(simp;done)|(simp;omega)|omega) _|refine Below.alloc ?_ (by first|(simp;done)|(simp;omega)|omega) _|refine below_drewN ?_ _|refine Below.drew ?_|refine below_undrew ?_|refine below_step ?_ (by assumption))⟩ ?_
 rintro W1 ⟨⟨y0,hn1⟩,hb1⟩
 have hYB:B≤Y:=by omega
 have hYc:Y≠q.c:=by omega
 have hYx:xb≠Y:=by omega
 have hB1:=Nat.le_trans hB hb1.size
 have hq1:=hq.old hb1 hB
 have cb:=num_r W1 B q Y 0 _ _ _ hq1 hB1 hn1 rfl hYB hYc
 have hx1:=hx.old hb1
 have HY:=Lib.hid hY
 clear hY
 go_wp2_with fail
 refine cb.mono ?_
 clear cb
 rintro e w2 ⟨h1,h2⟩
 by_cases hmore:q.at_+8≤q.bs.length
 ·obtain ⟨rfl,hg⟩:=h2 hmore
  clear h1 h2
  have e0:rdNum q.bs q.at_= .ok (numAt q.bs q.at_,q.at_+8):=by unfold rdNum;rw [if_neg (by omega)];rfl
  have cn:=hg.blk.rule
  obtain ⟨n,hn⟩:∃n,n=numAt q.bs q.at_:=⟨_,rfl⟩
  have cn2:w2.cell? ⟨Y,0,none⟩=some (.int .i64 n):=by rw [hn];exact cn 0
  rw [←hn] at e0
  have hbel2:RBad w q w2 xb t:=RGot.loc hb1 hg (Nat.le_of_eq HY.out.symm) rfl hxc hxl
  clear cn hn hn1
  by_cases ho:n< -128∨127<n
  ·have HR:=Lib.hid (show rdSmall q.bs q.at_= .error q.at_ by unfold rdSmall;rw [e0];dsimp only;rw [if_pos ho])
   have HB2:=Lib.hid hbel2
   by_cases o1:n< -128
   ·have d1:decide (n< -128)=true:=by simp;omega
    clear ho
    go_wp2_with fail
    refine ⟨rfl,?_⟩
    rw [HR.out]
    exact ⟨rfl,HB2.out⟩
   ·have d1:decide (n< -128)=false:=by simp;omega
    have d2:decide (127<n)=true:=by simp;omega
    clear ho o1
    go_wp2_with fail
    refine ⟨rfl,?_⟩
    rw [HR.out]
    exact ⟨rfl,HB2.out⟩
  ·have HR:=Lib.hid (show rdSmall q.bs q.at_= .ok (n,q.at_+8) by unfold rdSmall;rw [e0];dsimp only;rw [if_neg ho])
   have d1:decide (n< -128)=false:=by simp;omega
   have d2:decide (127<n)=false:=by simp;omega
   have e2:IntKind.i8.wrap n=n:=by simp only [IntKind.wrap,IntKind.bits,IntKind.signed];simp;omega
   have hx2:Blk w2 xb cs t:=(hg.turn.block xb (Nat.lt_of_lt_of_le hxl hb1.size) (by rintro (h|h);exact hxc h;exact hYx h)).trans hx1
   have cx:=hx2.rule i
   rw [hi] at cx
   have fx:=hx2.free
   have ht:Turn (fun x=>x=q.c∨x=xb) w w2:=(Turn.of_below (F:=fun x=>x=q.c∨x=xb) hb1).trans hg.turn fun x hx=>by
    rcases hx with rfl|rfl
    ·exact .inl (.inl rfl)
    ·exact .inr (by have:=HY.out;omega)
   have hat:=hg.at'
   clear hg ho e0
   go_wp2_with fail
   refine bodyPost_end (v:= .tuple #[]) (results_none rfl _ _ _) rfl ?_
   rw [HR.out]
   refine ⟨rfl,hat.keep (heap_setCell_other _ _ _ _ (Ne.symm hxc)) ((Below.refl _ _).setCell hxB _),ht.setCell (.inl (.inr rfl)) _,?_⟩
   exact hx2.set i (.int .i8 n)
 ·obtain ⟨rfl,hb2⟩:=h1 (by omega)
  have hbel2:RBad w q w2 xb t:=RBad.loc hb1 hb2 (Nat.le_of_eq HY.out.symm) rfl hxc hxl
  have HR:=Lib.hid (show rdSmall q.bs q.at_= .error q.bs.length by unfold rdSmall rdNum;rw [if_pos (by omega)])
  clear h1 h2
  go_wp2_with fail
  refine ⟨rfl,?_⟩
  rw [HR.out]
  exact ⟨rfl,hbel2⟩
end
end Go.Proofs.YtioigihakjlopaaGreat
