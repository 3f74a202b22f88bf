/- Texts put together and cut to what is used: ImD, ImD2, ImD3. -/
import Derived.Test.YtioigihakjlopaaGreatVB09
namespace Go.Proofs.YtioigihakjlopaaGreat
set_option linter.unusedVariables false
set_option linter.unusedSimpArgs false
section
open Go.RowKit
set_option maxRecDepth 20000
structure DC where
 c:Nat
 a:Option Addr
 cap:Nat
 bs:List UInt8
 at_:Nat
 bad:Int
def DC.to (q:DC) (k:Nat) (b:Int):DC:={q with at_:=k,bad:=b}
def qcells (q:DC):Array Value:= #[.slice q.a q.bs.length q.cap,.int .i64 (q.at_:Int),.int .i64 q.bad]
structure DAt (w:World) (B:Nat) (q:DC):Prop where
 ge:B≤q.c
 blk:Blk w q.c (qcells q) 191
 row:BytesAt w q.a q.bs
 low:InB B q.a q.bs.length
 le:q.at_≤q.bs.length
 max:q.bs.length≤1048576
 lo: -1≤q.bad
 hi:q.bad≤1048576
section
variable {w w' w'':World} {B:Nat} {q q' q'':DC}
theorem DAt.keep (h:DAt w B q) (hk:w'.heap[q.c]? =w.heap[q.c]?) (hb:Below B w w'):DAt w' B q:=
 ⟨h.ge,hk.trans h.blk,RowAt.low h.row h.low (fun h0=>by rw [List.eq_nil_of_length_eq_zero h0];rfl) hb,h.low,h.le,h.max,h.lo,h.hi⟩
theorem DAt.old (h:DAt w B q) (hb:Below w.heap.size w w') (hB:B≤w.heap.size):DAt w' B q:=h.keep (hb.block _ h.blk.lt) (hb.mono hB)
structure QStep (B:Nat) (w:World) (q:DC) (w':World) (k:Nat) (b:Int):Prop where
 at':DAt w' B (q.to k b)
 turn:Turn (fun x=>x=q.c) w w'
theorem QStep.trans {k k':Nat} {b b':Int} (h:QStep B w q w' k b) (h':QStep B w' (q.to k b) w'' k' b'):QStep B w q w'' k' b':=
 ⟨h'.at',h.turn.trans h'.turn fun _ hx=> .inl hx⟩
theorem QStep.refl (h:DAt w B q):QStep B w q w q.at_ q.bad:=⟨h,Turn.refl _ _⟩
end
def After {α:Type} (a0:Nat) (b0:Int) (rd:Nat→Rd α) (x:α) (k:Nat) (b:Int):Prop:=
 (0≤b0→b=b0)∧(b0<0→match rd a0 with
  | .ok y=>y.1=x∧b= -1∧k=y.2
  | .error p=>b=(p:Int))
theorem After.seq {α β:Type} {a0 k1 k2:Nat} {b0 b1 b2:Int} {r:Nat→Rd α} {f:α→Nat→Rd β} {x:α} {y:β} (h1:After a0 b0 r x k1 b1) (h2:After k1 b1 (f x) y k2 b2):After a0 b0 (fun a=>thn (r a) f) y k2 b2:=by
 refine ⟨fun h=> ?_,fun h=> ?_⟩
 ·have e:=h1.1 h
  rw [h2.1 (by rw [e];exact h),e]
 ·have e:=h1.2 h
  show match thn (r a0) f with| .ok y'=>_| .error p=>_
  cases hr:r a0 with
  |error p=>
   rw [hr] at e
   have e:b1=(p:Int):=e
   show b2=(p:Int)
   rw [h2.1 (by rw [e];omega),e]
  |ok z=>
   rw [hr] at e
   obtain ⟨ex,eb,ek⟩:z.1=x∧b1= -1∧k1=z.2:=e
   have h3:=h2.2 (by rw [eb];decide)
   rw [ek,←ex] at h3
   exact h3
theorem After.ok {α:Type} {a0 k:Nat} {b0 b:Int} {rd:Nat→Rd α} {x:α} (h:b0<0→rd a0= .ok (x,k)∧b= -1) (h':0≤b0→b=b0):After a0 b0 rd x k b:=
 ⟨h',fun hb=>by rw [(h hb).1];exact ⟨rfl,(h hb).2,rfl⟩⟩
theorem After.mapRd {α:Type} {a0 k:Nat} {b0 b:Int} {rd rd':Nat→Rd α} {x:α} (h:After a0 b0 rd x k b) (e:rd a0=rd' a0):After a0 b0 rd' x k b:=
 ⟨h.1,fun hb=>by rw [←e];exact h.2 hb⟩
def rdOne (bs:List UInt8) (a:Nat):Rd UInt8:=match bs[a]? with
 |none=> .error bs.length
 |some y=> .ok (y,a+1)
set_option maxHeartbeats 2000000 in
theorem wrong_d (w:World) (B:Nat) (q:DC) (p:Nat) (hq:DAt w B q) (hp:p≤1048576):
  Calls Tryz.prog 153 #[.pointer (some ⟨q.c,0,none⟩),.int .i64 (p:Int)] w fun e w'=>e= .returned (.tuple #[])∧QStep B w q w' q.at_ (if q.bad<0 then (p:Int) else q.bad):=by
 have hc:=hq.blk.rule
 unfold qcells at hc
 have fz:=hq.blk.free
 have hlo:=hq.lo
 by_cases hb:q.bad<0
 ·have d0:decide (q.bad<0)=true:=by simpa using hb
  rw [if_pos hb]
  go_enter Tryz.func153,Tryz.ntmps153
  go_wp2_with fail
  refine bodyPost_end (v:= .tuple #[]) (results_none rfl _ _ _) rfl ⟨rfl,⟨⟨hq.ge,hq.blk.set 2 (.int .i64 (p:Int)),?_,hq.low,hq.le,hq.max,?_,?_⟩,(Turn.refl (fun x=>x=q.c) w).setCell (x:=⟨q.c,2,none⟩) (.inl rfl) _⟩⟩
  ·exact RowAt.low hq.row hq.low (fun h0=>by show q.bs.map bv=[];rw [List.eq_nil_of_length_eq_zero h0];rfl) ((Below.refl _ _).setCell hq.ge _)
  ·show-1≤(p:Int);omega
  ·show (p:Int)≤1048576;omega
 ·have d0:decide (q.bad<0)=false:=by simpa using hb
  rw [if_neg hb]
  go_enter Tryz.func153,Tryz.ntmps153
  go_wp2_with fail
  refine bodyPost_end (v:= .tuple #[]) (results_none rfl _ _ _) rfl ⟨rfl,QStep.refl hq⟩
set_option maxHeartbeats 4000000 in
theorem one_d (w:World) (B:Nat) (q:DC) (hq:DAt w B q) (hB:B≤w.heap.size):
  Calls Tryz.prog 154 #[.pointer (some ⟨q.c,0,none⟩)] w fun e w'=>∃(y:UInt8) (k:Nat) (b:Int),e= .returned (.int .u8 (U8 y))∧QStep B w q w' k b∧After q.at_ q.bad (rdOne q.bs) y k b:=by
 have hc:=hq.blk.rule
 unfold qcells at hc
 have hlo:=hq.lo
 have hle:=hq.le
 have hmx:=hq.max
 by_cases hb:q.bad<0
 ·have d0:decide (q.bad<0)=true:=by simpa using hb
  by_cases hl:q.at_<q.bs.length
  ·have d1:decide ((q.bs.length:Int)≤(q.at_:Int))=false:=by simp;omega
   have d2:decide (0≤q.bad)=false:=by simp;omega
   go_enter Tryz.func154,Tryz.ntmps154
   go_wp2_with fail
   go_quiet (fail)
   go_upto_region 5 with (fail)
   refine wp_forget (fun W=>DAt W B q∧Below w.heap.size w W) ⟨hq.old (by (try unfold Kept);repeat (first|assumption|exact Below.refl _ _|exact below_undrew (Below.refl _ _)|exact Below.mono (by assumption) (by first|(simp;done)|(simp;omega)|omega)|refine below_setRow ?_ (by first|(simp;done)|(simp;omega)|omega) _|refine Below.setCell ?_ (by first|(simp;done)|(simp;omega)|omega) _|refine Below.alloc ?_ (by first|(simp;done)|(simp;omega)|omega) _|refine below_drewN ?_ _|refine Below.drew ?_|refine below_undrew ?_|refine below_step ?_ (by assumption))) hB,by (try unfold Kept);repeat (first|assumption|exact Below.refl _ _|exact below_undrew (Below.refl _ _)|exact Below.mono (by assumption) (by first|(simp;done)|(simp;omega)|omega)|refine below_setRow ?_ (by first|(simp;done)|(simp;omega)|omega) _|refine Below.setCell ?_ (by first|(simp;done)|(simp;omega)|omega) _|refine Below.alloc ?_ (by first|(simp;done)|(simp;omega)|omega) _|refine below_drewN ?_ _|refine Below.drew ?_|refine below_undrew ?_|refine below_step ?_ (by assumption))⟩ ?_
   rintro w1 ⟨hq1,hb1⟩
   clear hc
   have c1:=hq1.blk.rule
   unfold qcells at c1
   have f1:=hq1.blk.free
   have hadd:IntKind.i64.wrap ((q.at_:Int)+1)=((q.at_+1:Nat):Int):=by rw [IntKind.wrap_i64];omega
   go_upto_region 6 with (fail)
   refine wp_forget (fun W=>DAt W B (q.to (q.at_+1) q.bad)∧Turn (fun x=>x=q.c) w W) ⟨⟨hq.ge,hq1.blk.set 1 (.int .i64 ((q.at_+1:Nat):Int)),?_,hq.low,hl,hmx,hlo,hq.hi⟩,(Turn.of_below (F:=fun x=>x=q.c) hb1).setCell (x:=⟨q.c,1,none⟩) (.inl rfl) _⟩ ?_
   ·exact RowAt.low hq1.row hq.low (fun h0=>by show q.bs.map bv=[];rw [List.eq_nil_of_length_eq_zero h0];rfl) ((Below.refl _ _).setCell hq.ge _)
   rintro w2 ⟨hq2,ht2⟩
   clear c1 f1 hadd
   obtain ⟨b,o,ha,hcell⟩:=hq2.row q.at_ (by rw [List.length_map];exact hl)
   rw [List.getElem_map] at hcell
   unfold bv at hcell
   have c2:=hq2.blk.rule
   unfold qcells DC.to at c2
   dsimp only at c2 hcell
   have ha':q.a=some ⟨b,o,none⟩:=ha
   rw [ha'] at c2
   have hsub:IntKind.i64.wrap (((q.at_+1:Nat):Int)-1)=(q.at_:Int):=by rw [IntKind.wrap_i64];omega
   have hsub2:IntKind.i64.wrap ((q.at_:Int)+1-1)=(q.at_:Int):=by rw [IntKind.wrap_i64];omega
   obtain ⟨y,hyd⟩:∃y,y=q.bs[q.at_]:=⟨_,rfl⟩
   have hcell':w2.cell? ⟨b,o+q.at_,none⟩=some (.int .u8 (U8 y)):=by rw [hyd];exact hcell
   have HYD:=Lib.hid hyd
   clear hyd hcell
   go_quiet (fail)
   go_wp2_with fail
   go_ret
   refine ⟨y,q.at_+1,q.bad,rfl,⟨hq2.old (by (try unfold Kept);repeat (first|assumption|exact Below.refl _ _|exact below_undrew (Below.refl _ _)|exact Below.mono (by assumption) (by first|(simp;done)|(simp;omega)|omega)|refine below_setRow ?_ (by first|(simp;done)|(simp;omega)|omega) _|refine Below.setCell ?_ (by first|(simp;done)|(simp;omega)|omega) _|refine Below.alloc ?_ (by first|(simp;done)|(simp;omega)|omega) _|refine below_drewN ?_ _|refine Below.drew ?_|refine below_undrew ?_|refine below_step ?_ (by assumption))) (by have:=ht2.size;omega),ht2.drewN _⟩,After.ok (fun _=>⟨?_,by omega⟩) fun h=>rfl⟩
   unfold rdOne
   rw [List.getElem?_eq_getElem hl,HYD.out]
  ·have he:q.at_=q.bs.length:=by omega
   have d1:decide ((q.bs.length:Int)≤(q.at_:Int))=true:=by simp;omega
   have d1':decide (q.bs.length≤q.at_)=true:=by simp;omega
   have HE:=Lib.hid he
   clear he
   go_enter Tryz.func154,Tryz.ntmps154
   go_wp2_with fail
   go_quiet (fail)
   go_upto_region 2 with (fail)
   refine wp_forget (fun W=>DAt W B q∧Below w.heap.size w W) ⟨hq.old (by (try unfold Kept);repeat (first|assumption|exact Below.refl _ _|exact below_undrew (Below.refl _ _)|exact Below.mono (by assumption) (by first|(simp;done)|(simp;omega)|omega)|refine below_setRow ?_ (by first|(simp;done)|(simp;omega)|omega) _|refine Below.setCell ?_ (by first|(simp;done)|(simp;omega)|omega) _|refine Below.alloc ?_ (by first|(simp;done)|(simp;omega)|omega) _|refine below_drewN ?_ _|refine Below.drew ?_|refine below_undrew ?_|refine below_step ?_ (by assumption))) hB,by (try unfold Kept);repeat (first|assumption|exact Below.refl _ _|exact below_undrew (Below.refl _ _)|exact Below.mono (by assumption) (by first|(simp;done)|(simp;omega)|omega)|refine below_setRow ?_ (by first|(simp;done)|(simp;omega)|omega) _|refine Below.setCell ?_ (by first|(simp;done)|(simp;omega)|omega) _|refine Below.alloc ?_ (by first|(simp;done)|(simp;omega)|omega) _|refine below_drewN ?_ _|refine Below.drew ?_|refine below_undrew ?_|refine below_step ?_ (by assumption))⟩ ?_
   rintro w1 ⟨hq1,hb1⟩
   clear hc
   have hc:=hq1.blk.rule
   unfold qcells at hc
   have cw:=wrong_d w1 B q q.bs.length hq1 hmx
   rw [if_pos hb] at cw
   go_wp2_with fail
   refine cw.mono ?_
   clear cw
   rintro e w2 ⟨rfl,hs⟩
   clear hc
   have c2:=hs.at'.blk.rule
   unfold qcells DC.to at c2
   dsimp only at c2
   have d3:decide ((0:Int)≤(q.bs.length:Int))=true:=by simp
   go_wp2_with fail
   go_ret
   refine ⟨0,q.at_,q.bs.length,rfl,⟨hs.at',(Turn.of_below hb1).trans hs.turn fun _ hx=> .inl hx⟩,fun h=>by omega,fun _=> ?_⟩
   unfold rdOne
   rw [List.getElem?_eq_none (by rw [HE.out];exact Nat.le_refl _)]
 ·have d0:decide (q.bad<0)=false:=by simpa using hb
  have d2:decide (0≤q.bad)=true:=by simp;omega
  go_enter Tryz.func154,Tryz.ntmps154
  go_wp2_with fail
  go_quiet (fail)
  go_wp2_with fail
  go_ret
  exact ⟨0,q.at_,q.bad,rfl,⟨hq.old (by (try unfold Kept);repeat (first|assumption|exact Below.refl _ _|exact below_undrew (Below.refl _ _)|exact Below.mono (by assumption) (by first|(simp;done)|(simp;omega)|omega)|refine below_setRow ?_ (by first|(simp;done)|(simp;omega)|omega) _|refine Below.setCell ?_ (by first|(simp;done)|(simp;omega)|omega) _|refine Below.alloc ?_ (by first|(simp;done)|(simp;omega)|omega) _|refine below_drewN ?_ _|refine Below.drew ?_|refine below_undrew ?_|refine below_step ?_ (by assumption))) hB,Turn.of_below (by (try unfold Kept);repeat (first|assumption|exact Below.refl _ _|exact below_undrew (Below.refl _ _)|exact Below.mono (by assumption) (by first|(simp;done)|(simp;omega)|omega)|refine below_setRow ?_ (by first|(simp;done)|(simp;omega)|omega) _|refine Below.setCell ?_ (by first|(simp;done)|(simp;omega)|omega) _|refine Below.alloc ?_ (by first|(simp;done)|(simp;omega)|omega) _|refine below_drewN ?_ _|refine Below.drew ?_|refine below_undrew ?_|refine below_step ?_ (by assumption)))⟩,fun _=>rfl,fun h=>absurd h (by omega)⟩
def rdPart (bs:List UInt8) (i a:Nat):Rd (BitVec 64):=if bs.length<a+i then .error bs.length else .ok (rdB ((bs.drop a).take i),a+i)
theorem After.part {bs:List UInt8} {i a0 k k':Nat} {b0 b b':Int} {m:BitVec 64} {y:UInt8} (h1:After a0 b0 (rdPart bs i) m k b) (h2:After k b (rdOne bs) y k' b'):After a0 b0 (rdPart bs (i+1)) (m<<<8|||y.toBitVec.setWidth 64) k' b':=by
 refine ⟨fun h=> ?_,fun h=> ?_⟩
 ·have e:=h1.1 h
  rw [h2.1 (by rw [e];exact h),e]
 ·have e:=h1.2 h
  unfold rdPart at e⊢
  by_cases hl:bs.length<a0+i
  ·rw [if_pos hl] at e
   have e:b=(bs.length:Int):=e
   rw [if_pos (by omega)]
   show b'=(bs.length:Int)
   rw [h2.1 (by rw [e];omega),e]
  ·rw [if_neg hl] at e
   obtain ⟨em,eb,ek⟩:rdB ((bs.drop a0).take i)=m∧b= -1∧k=a0+i:=e
   have h3:=h2.2 (by rw [eb];decide)
   unfold rdOne at h3
   rw [ek] at h3
   by_cases hm:a0+i<bs.length
   ·rw [List.getElem?_eq_getElem hm] at h3
    obtain ⟨ey,eb',ek'⟩:bs[a0+i]=y∧b'= -1∧k'=a0+i+1:=h3
    rw [if_neg (by omega)]
    refine ⟨?_,eb',by rw [ek'];rfl⟩
    show rdB ((bs.drop a0).take (i+1))=_
    rw [List.take_succ_eq_append_getElem (by rw [List.length_drop];omega),rdB_snoc,em,List.getElem_drop,ey]
   ·rw [List.getElem?_eq_none (by omega)] at h3
    rw [if_pos (by omega)]
    exact h3
theorem After.num {bs:List UInt8} {a0 k:Nat} {b0 b:Int} {m:BitVec 64} (h:After a0 b0 (rdPart bs 8) m k b):After a0 b0 (rdNum bs) m.toInt k b:=by
 refine ⟨h.1,fun hb=> ?_⟩
 have e:=h.2 hb
 unfold rdPart at e
 unfold rdNum
 by_cases hl:bs.length<a0+8
 ·rw [if_pos hl] at e⊢
  exact e
 ·rw [if_neg hl] at e⊢
  obtain ⟨em,eb,ek⟩:rdB ((bs.drop a0).take 8)=m∧b= -1∧k=a0+8:=e
  exact ⟨by rw [em],eb,ek⟩
def NumD (w:World) (B:Nat) (q:DC) (f:Nat) (v3 v4:Value) (wr:World):Prop:=
 ∃(i k:Nat) (b:Int) (m:BitVec 64),i+f=8∧v4= .int .i64 (i:Int)∧v3= .int .u64 (U64 m)∧QStep B w q wr k b∧After q.at_ q.bad (rdPart q.bs i) m k b
set_option maxHeartbeats 4000000 in
theorem num_d (w:World) (B:Nat) (q:DC) (hq:DAt w B q) (hB:B≤w.heap.size):
  Calls Tryz.prog 126 #[.pointer (some ⟨q.c,0,none⟩)] w fun e w'=>∃(m:BitVec 64) (k:Nat) (b:Int),e= .returned (.int .i64 m.toInt)∧QStep B w q w' k b∧After q.at_ q.bad (rdNum q.bs) m.toInt k b:=by
 have hst:NumD w B q 8 (.int .u64 0) (.int .i64 0) w:=⟨0,q.at_,q.bad,0,rfl,rfl,rfl,QStep.refl hq,After.ok (fun hb=>⟨by unfold rdPart;rw [if_neg (by have:=hq.le;omega)];rfl,by have:=hq.lo;omega⟩) fun _=>rfl⟩
 go_enter Tryz.func126,Tryz.ntmps126
 go_wp2_with fail
 go_loopg [3,4] 8 (NumD w B q)
 case atStart=>exact hst
 case round=>
  clear hst
  obtain ⟨i,k,b,m,hi,rfl,rfl,hs,haf⟩:=hrel
  by_cases hlt:i<8
  ·have t0:decide ((i:Int)<8)=true:=by simp;omega
   have cb:=one_d wr B (q.to k b) hs.at' (Nat.le_trans hB hs.turn.size)
   have hcc:(q.to k b).c=q.c:=rfl
   rw [hcc] at cb
   go_wp2_with fail
   refine cb.mono ?_
   clear cb
   rintro e w2 ⟨y,k2,b2,rfl,hs2,haf2⟩
   go_wp2_with fail
   go_roundg (gk-1)
   case measure=>omega
   case rel=>exact ⟨i+1,k2,b2,m<<<8|||y.toBitVec.setWidth 64,by omega,by go_num,by exact congrArg _ (or_step m y),hs.trans hs2,After.part haf haf2⟩
  ·have t0:decide ((i:Int)<8)=false:=by simp;omega
   obtain rfl:i=8:=by omega
   have hcv:=i64_of_u64 m
   go_wp2_with fail
   go_ret
   exact ⟨m,k,b,rfl,hs,After.num haf⟩
theorem After.small_bad {bs:List UInt8} {a0 k:Nat} {b0 b:Int} {n x:Int} (h:After a0 b0 (rdNum bs) n k b) (hn:n< -128∨127<n):After a0 b0 (rdSmall bs) x k (if b<0 then (a0:Int) else b):=by
 refine ⟨fun hb=> ?_,fun hb=> ?_⟩
 ·rw [h.1 hb,if_neg (by omega)]
 ·have e:=h.2 hb
  unfold rdSmall
  cases hr:rdNum bs a0 with
  |error p=>
   rw [hr] at e
   have e:b=(p:Int):=e
   show _=(p:Int)
   rw [e,if_neg (by omega)]
  |ok z=>
   obtain ⟨z1,z2⟩:=z
   rw [hr] at e
   obtain ⟨rfl,rfl,rfl⟩:z1=n∧b= -1∧k=z2:=e
   dsimp only
   rw [if_pos hn]
   rfl
theorem After.small_ok {bs:List UInt8} {a0 k:Nat} {b0 b:Int} {n:Int} (h:After a0 b0 (rdNum bs) n k b) (hn:¬(n< -128∨127<n)):After a0 b0 (rdSmall bs) n k b:=by
 refine ⟨h.1,fun hb=> ?_⟩
 have e:=h.2 hb
 unfold rdSmall
 cases hr:rdNum bs a0 with
 |error p=>
  rw [hr] at e
  exact e
 |ok z=>
  obtain ⟨z1,z2⟩:=z
  rw [hr] at e
  obtain ⟨rfl,rfl,rfl⟩:z1=n∧b= -1∧k=z2:=e
  dsimp only
  rw [if_neg hn]
  exact ⟨rfl,rfl,rfl⟩
set_option maxHeartbeats 4000000 in
theorem small_d (w:World) (B:Nat) (q:DC) (hq:DAt w B q) (hB:B≤w.heap.size):
  Calls Tryz.prog 125 #[.pointer (some ⟨q.c,0,none⟩)] w fun e w'=>∃(x:Int) (k:Nat) (b:Int),e= .returned (.int .i8 x)∧wf8 x∧QStep B w q w' k b∧After q.at_ q.bad (rdSmall q.bs) x k b:=by
 have hc:=hq.blk.rule
 unfold qcells at hc
 have hle:=hq.le
 have hmx:=hq.max
 have cb:=num_d w B q hq hB
 go_enter Tryz.func125,Tryz.ntmps125
 go_wp2_with fail
 refine cb.mono ?_
 clear cb
 rintro e w2 ⟨m,k,b,rfl,hs,haf⟩
 obtain ⟨n,hnd⟩:∃n,n=m.toInt:=⟨_,rfl⟩
 rw [←hnd] at haf⊢
 clear hnd hc
 have hB2:=Nat.le_trans hB hs.turn.size
 have cw:=wrong_d w2 B (q.to k b) q.at_ hs.at' (by omega)
 have hcc:(q.to k b).c=q.c:=rfl
 rw [hcc] at cw
 have hbad:(q.to k b).bad=b:=rfl
 have hat:(q.to k b).at_=k:=rfl
 rw [hbad,hat] at cw
 have wz:wf8 0:=by show (Lit.int .i8 0).wf=true;decide
 by_cases h1:n< -128
 ·have t1:decide (n< -128)=true:=by simpa using h1
  go_wp2_with fail
  refine cw.mono ?_
  clear cw
  rintro e w3 ⟨rfl,hs3⟩
  go_wp2_with fail
  go_ret
  exact ⟨0,k,_,rfl,wz,hs.trans hs3,After.small_bad haf (.inl h1)⟩
 have t1:decide (n< -128)=false:=by simpa using h1
 by_cases h2:127<n
 ·have t2:decide (127<n)=true:=by simpa using h2
  go_wp2_with fail
  refine cw.mono ?_
  clear cw
  rintro e w3 ⟨rfl,hs3⟩
  go_wp2_with fail
  go_ret
  exact ⟨0,k,_,rfl,wz,hs.trans hs3,After.small_bad haf (.inr h2)⟩
 have t2:decide (127<n)=false:=by simpa using h2
 have hwr:IntKind.i8.wrap n=n:=by
  simp only [IntKind.wrap,IntKind.bits,IntKind.signed]
  simp
  omega
 have wn:wf8 n:=by
  simp [wf8,Lit.wf,IntKind.min,IntKind.max,IntKind.signed,IntKind.bits]
  omega
 clear cw
 go_wp2_with fail
 go_ret
 exact ⟨n,k,b,rfl,wn,hs,After.small_ok haf (by omega)⟩
def rdCount (bs:List UInt8) (each:Nat) (a0:Nat):Rd Nat:=match rdNum bs a0 with
 | .error p=> .error p
 | .ok (n,a)=>if n<0∨((bs.length:Int)-a).tdiv each<n then .error a0 else .ok (n.toNat,a)
theorem After.count_bad {bs:List UInt8} {each a0 k:Nat} {b0 b:Int} {n:Int} {x:Nat} (h:After a0 b0 (rdNum bs) n k b) (hn:b<0→n<0∨((bs.length:Int)-k).tdiv each<n):After a0 b0 (rdCount bs each) x k (if b<0 then (a0:Int) else b):=by
 refine ⟨fun hb=> ?_,fun hb=> ?_⟩
 ·rw [h.1 hb,if_neg (by omega)]
 ·have e:=h.2 hb
  unfold rdCount
  cases hr:rdNum bs a0 with
  |error p=>
   rw [hr] at e
   have e:b=(p:Int):=e
   show _=(p:Int)
   rw [e,if_neg (by omega)]
  |ok z=>
   obtain ⟨z1,z2⟩:=z
   rw [hr] at e
   obtain ⟨rfl,rfl,rfl⟩:z1=n∧b= -1∧k=z2:=e
   dsimp only
   rw [if_pos (hn (by decide))]
   rfl
theorem After.count_ok {bs:List UInt8} {each a0 k:Nat} {b0 b:Int} {n:Int} (h:After a0 b0 (rdNum bs) n k b) (hb':b<0) (hn:¬(n<0∨((bs.length:Int)-k).tdiv each<n)):After a0 b0 (rdCount bs each) n.toNat k b:=by
 refine ⟨h.1,fun hb=> ?_⟩
 have e:=h.2 hb
 unfold rdCount
 cases hr:rdNum bs a0 with
 |error p=>
  rw [hr] at e
  exact e
 |ok z=>
  obtain ⟨z1,z2⟩:=z
  rw [hr] at e
  obtain ⟨rfl,rfl,rfl⟩:z1=n∧b= -1∧k=z2:=e
  dsimp only
  rw [if_neg hn]
  exact ⟨rfl,rfl,rfl⟩
set_option maxHeartbeats 4000000 in
theorem count_d (w:World) (B:Nat) (q:DC) (each:Nat) (hq:DAt w B q) (hB:B≤w.heap.size) (he1:0<each) (he2:each≤100):
  Calls Tryz.prog 128 #[.pointer (some ⟨q.c,0,none⟩),.int .i64 (each:Int)] w fun e w'=>∃(n k:Nat) (b:Int),e= .returned (.int .i64 (n:Int))∧n≤1048576∧(0≤b→n=0)∧QStep B w q w' k b∧After q.at_ q.bad (rdCount q.bs each) n k b:=by
 have hc:=hq.blk.rule
 unfold qcells at hc
 have hle:=hq.le
 have hmx:=hq.max
 have cb:=num_d w B q hq hB
 go_enter Tryz.func128,Tryz.ntmps128
 go_wp2_with fail
 refine cb.mono ?_
 clear cb
 rintro e w2 ⟨m,k,b,rfl,hs,haf⟩
 obtain ⟨n,hnd⟩:∃n,n=m.toInt:=⟨_,rfl⟩
 rw [←hnd] at haf⊢
 have hn64: -9223372036854775808≤n∧n<9223372036854775808:=by
  have h1:=BitVec.toInt_lt (x:=m)
  have h2:=BitVec.le_toInt (x:=m)
  rw [hnd]
  simp at h1 h2
  omega
 clear hnd hc
 have hk:k≤q.bs.length:=hs.at'.le
 have hc:=hs.at'.blk.rule
 unfold qcells DC.to at hc
 dsimp only at hc
 have hbl:=hs.at'.lo
 have hbl: -1≤b:=hbl
 have hB2:=Nat.le_trans hB hs.turn.size
 have hsub:IntKind.i64.wrap ((q.bs.length:Int)-(k:Int))=(q.bs.length:Int)-(k:Int):=by rw [IntKind.wrap_i64];omega
 obtain ⟨z,hz⟩:∃z,z=((q.bs.length:Int)-(k:Int)).tdiv each:=⟨_,rfl⟩
 have hz0:0≤z∧z≤1048576:=by
  rw [hz,Int.tdiv_eq_ediv_of_nonneg (by omega)]
  exact ⟨Int.ediv_nonneg (by omega) (by omega),Int.le_trans (Int.ediv_le_self _ (by omega)) (by omega)⟩
 have hzw:IntKind.i64.wrap (((q.bs.length:Int)-(k:Int)).tdiv each)=z:=by rw [←hz,IntKind.wrap_i64];omega
 have hne:((each:Int)==0)=false:=by simp;omega
 have hne2:(each:Int)≠0:=by omega
 have HZ:=Lib.hid hz
 clear hz
 by_cases hb:b<0
 ·have d0:decide (b<0)=true:=by simpa using hb
  have d2:decide (0≤b)=false:=by simp;omega
  by_cases h1:n<0
  ·have t1:decide (n<0)=true:=by simpa using h1
   go_wp2_with fail
   go_quiet (fail)
   go_upto_region 4 with (fail)
   refine wp_forget (fun W=>QStep B w q W k b) ⟨hs.at'.old (by (try unfold Kept);repeat (first|assumption|exact Below.refl _ _|exact below_undrew (Below.refl _ _)|exact Below.mono (by assumption) (by first|(simp;done)|(simp;omega)|omega)|refine below_setRow ?_ (by first|(simp;done)|(simp;omega)|omega) _|refine Below.setCell ?_ (by first|(simp;done)|(simp;omega)|omega) _|refine Below.alloc ?_ (by first|(simp;done)|(simp;omega)|omega) _|refine below_drewN ?_ _|refine Below.drew ?_|refine below_undrew ?_|refine below_step ?_ (by assumption))) hB2,hs.turn.drewN _⟩ ?_
   intro w3 hs3
   have cw:=wrong_d w3 B (q.to k b) q.at_ hs3.at' (by omega)
   have hcc:(q.to k b).c=q.c:=rfl
   have hbad:(q.to k b).bad=b:=rfl
   have hat:(q.to k b).at_=k:=rfl
   rw [hcc,hbad,hat,if_pos hb] at cw
   go_wp2_with fail
   refine cw.mono ?_
   clear cw
   rintro e w4 ⟨rfl,hs4⟩
   have c4:=hs4.at'.blk.rule
   unfold qcells DC.to at c4
   dsimp only at c4
   have d3:decide ((0:Int)≤(q.at_:Int))=true:=by simp
   go_wp2_with fail
   go_ret
   refine ⟨0,k,q.at_,rfl,by omega,fun _=>rfl,hs3.trans hs4,?_⟩
   have:=After.count_bad (x:=0) (each:=each) haf (fun _=> .inl h1)
   rwa [if_pos hb] at this
  ·have t1:decide (n<0)=false:=by simpa using h1
   by_cases h2:z<n
   ·have t2:decide (z<n)=true:=by simpa using h2
    go_wp2_with fail
    go_quiet (fail)
    go_upto_region 4 with (fail)
    refine wp_forget (fun W=>QStep B w q W k b) ⟨hs.at'.old (by (try unfold Kept);repeat (first|assumption|exact Below.refl _ _|exact below_undrew (Below.refl _ _)|exact Below.mono (by assumption) (by first|(simp;done)|(simp;omega)|omega)|refine below_setRow ?_ (by first|(simp;done)|(simp;omega)|omega) _|refine Below.setCell ?_ (by first|(simp;done)|(simp;omega)|omega) _|refine Below.alloc ?_ (by first|(simp;done)|(simp;omega)|omega) _|refine below_drewN ?_ _|refine Below.drew ?_|refine below_undrew ?_|refine below_step ?_ (by assumption))) hB2,hs.turn.drewN _⟩ ?_
    intro w3 hs3
    have cw:=wrong_d w3 B (q.to k b) q.at_ hs3.at' (by omega)
    have hcc:(q.to k b).c=q.c:=rfl
    have hbad:(q.to k b).bad=b:=rfl
    have hat:(q.to k b).at_=k:=rfl
    rw [hcc,hbad,hat,if_pos hb] at cw
    go_wp2_with fail
    refine cw.mono ?_
    clear cw
    rintro e w4 ⟨rfl,hs4⟩
    have c4:=hs4.at'.blk.rule
    unfold qcells DC.to at c4
    dsimp only at c4
    have d3:decide ((0:Int)≤(q.at_:Int))=true:=by simp
    go_wp2_with fail
    go_ret
    refine ⟨0,k,q.at_,rfl,by omega,fun _=>rfl,hs3.trans hs4,?_⟩
    have:=After.count_bad (x:=0) (each:=each) haf (fun _=> .inr (by rw [←HZ.out];exact h2))
    rwa [if_pos hb] at this
   ·have t2:decide (z<n)=false:=by simpa using h2
    go_wp2_with fail
    go_quiet (fail)
    go_wp2_with fail
    go_ret
    refine ⟨n.toNat,k,b,by (rw [Int.toNat_of_nonneg (by omega)];rfl),by omega,fun h=>by omega,⟨hs.at'.old (by (try unfold Kept);repeat (first|assumption|exact Below.refl _ _|exact below_undrew (Below.refl _ _)|exact Below.mono (by assumption) (by first|(simp;done)|(simp;omega)|omega)|refine below_setRow ?_ (by first|(simp;done)|(simp;omega)|omega) _|refine Below.setCell ?_ (by first|(simp;done)|(simp;omega)|omega) _|refine Below.alloc ?_ (by first|(simp;done)|(simp;omega)|omega) _|refine below_drewN ?_ _|refine Below.drew ?_|refine below_undrew ?_|refine below_step ?_ (by assumption))) hB2,hs.turn.drewN _⟩,After.count_ok haf hb ?_⟩
    rw [←HZ.out]
    omega
 ·have d0:decide (b<0)=false:=by simpa using hb
  have d2:decide (0≤b)=true:=by simp;omega
  go_wp2_with fail
  go_quiet (fail)
  go_wp2_with fail
  go_ret
  refine ⟨0,k,b,rfl,by omega,fun _=>rfl,⟨hs.at'.old (by (try unfold Kept);repeat (first|assumption|exact Below.refl _ _|exact below_undrew (Below.refl _ _)|exact Below.mono (by assumption) (by first|(simp;done)|(simp;omega)|omega)|refine below_setRow ?_ (by first|(simp;done)|(simp;omega)|omega) _|refine Below.setCell ?_ (by first|(simp;done)|(simp;omega)|omega) _|refine Below.alloc ?_ (by first|(simp;done)|(simp;omega)|omega) _|refine below_drewN ?_ _|refine Below.drew ?_|refine below_undrew ?_|refine below_step ?_ (by assumption))) hB2,hs.turn.drewN _⟩,?_⟩
  have:=After.count_bad (x:=0) (each:=each) haf (fun h=>by omega)
  rwa [if_neg (by omega)] at this
theorem toInt_wf (m:BitVec 64):wf64 m.toInt:=by
 have h1:=BitVec.toInt_lt (x:=m)
 have h2:=BitVec.le_toInt (x:=m)
 simp at h1 h2
 simp [wf64,Lit.wf,IntKind.min,IntKind.max,IntKind.signed,IntKind.bits]
 omega
section
variable {α:Type} {a0 k k':Nat} {b0 b b':Int} {rd:Nat→Rd α} {x:α} {l:List α} {n:Nat}
theorem After.none (h: -1≤b):After k b (rdMany rd 0) [] k b:=⟨fun _=>rfl,fun h'=>⟨rfl,by omega,rfl⟩⟩
theorem After.many (h1:After a0 b0 rd x k b) (h2:After k b (rdMany rd n) l k' b'):After a0 b0 (rdMany rd (n+1)) (x::l) k' b':=by
 refine ⟨fun h=> ?_,fun h=> ?_⟩
 ·have e:=h1.1 h
  rw [h2.1 (by rw [e];exact h),e]
 ·have e:=h1.2 h
  unfold rdMany
  cases hr:rd a0 with
  |error p=>
   rw [hr] at e
   have e:b=(p:Int):=e
   show b'=(p:Int)
   rw [h2.1 (by rw [e];omega),e]
  |ok z=>
   rw [hr] at e
   obtain ⟨z1,z2⟩:=z
   obtain ⟨rfl,rfl,rfl⟩:z1=x∧b= -1∧k=z2:=e
   have h3:=h2.2 (by decide)
   cases hm:rdMany rd n k with
   |error p=>
    rw [hm] at h3
    simpa [hm] using h3
   |ok y=>
    rw [hm] at h3
    obtain ⟨y1,y2⟩:=y
    obtain ⟨rfl,rfl,rfl⟩:y1=l∧b'= -1∧k'=y2:=h3
    simp [hm]
theorem After.list {bs:List UInt8} {each:Nat} (h1:After a0 b0 (rdCount bs each) n k b) (h2:After k b (rdMany rd n) l k' b'):After a0 b0 (rdList bs each rd) l k' b':=by
 refine (After.seq (f:=fun n a=>rdMany rd n a) h1 h2).mapRd ?_
 unfold rdCount rdList
 cases rdNum bs a0 with
 |error p=>rfl
 |ok z=>
  obtain ⟨z1,z2⟩:=z
  dsimp only
  by_cases hc:z1<0∨((bs.length:Int)-z2).tdiv each<z1
  ·rw [if_pos hc,if_pos hc];rfl
  ·rw [if_neg hc,if_neg hc];rfl
end
theorem DAt.rx {w w':World} {B:Nat} {q:DC} {T:TypeId} (h:DAt w B q) (hr:Rx B T w w') (hT:191≠T):DAt w' B q:=
 ⟨h.ge,hr.blk h.blk hT,RowAt.low h.row h.low (fun h0=>by rw [List.eq_nil_of_length_eq_zero h0];rfl) hr.1,h.low,h.le,h.max,h.lo,h.hi⟩
theorem QStep.grown {w wr w':World} {B n c sz k:Nat} {b:Int} {q:DC} {T:TypeId} {a:Option Addr} {vs:List Value} (h:QStep B w q wr k b) (hB:B≤w.heap.size) (ho:Own wr w.heap.size T sz a n c vs) (hg:wr.grownBy w' (Value.slice a n c).ownBlock) (hT:191≠T):QStep B w q w' k b:=by
 have hz:=h.turn.size
 have hb:Below w.heap.size wr w':=ho.grown (Below.refl _ _) (Nat.le_refl _) hg hz
 exact ⟨h.at'.rx (Rx.grown ho hB (Nat.le_trans hB hz) hg) hT,h.turn.trans (Turn.of_ge hb) fun x hx=> .inr hx⟩
theorem QStep.alloc {w wr:World} {B k:Nat} {b:Int} {q:DC} (h:QStep B w q wr k b) (hB:B≤w.heap.size) (o:Obj):QStep B w q (wr.alloc o) k b:=by
 have hb:Below wr.heap.size wr (wr.alloc o):=(Below.refl _ _).alloc (Nat.le_refl _) o
 exact ⟨h.at'.old hb (Nat.le_trans hB h.turn.size),h.turn.trans (Turn.of_below (F:=fun x=>x=q.c) hb) fun x hx=> .inl hx⟩
def NumsD (w:World) (B:Nat) (q:DC) (N:Nat) (f:Nat) (v3 v5:Value) (wr:World):Prop:=
 ∃(i k:Nat) (b:Int) (a:Option Addr) (c:Nat) (l:List Int),i+f=N∧v5= .int .i64 (i:Int)∧v3= .slice a i c∧l.length=i∧(∀x∈l,wf64 x)∧Own wr w.heap.size 3 1 a i c (l.map (Value.int .i64))∧QStep B w q wr k b∧Hid (∀m k' b',After k b (rdMany (rdNum q.bs) f) m k' b'→After q.at_ q.bad (rdInts q.bs) (l++m) k' b')
set_option maxHeartbeats 4000000 in
theorem nums_d (w:World) (B:Nat) (q:DC) (hq:DAt w B q) (hB:B≤w.heap.size):
  Calls Tryz.prog 127 #[.pointer (some ⟨q.c,0,none⟩)] w fun e w'=>∃(s:Sl) (l:List Int) (k:Nat) (b:Int),e= .returned (.slice s.a s.n s.c)∧OwnInts w' w.heap.size s l∧QStep B w q w' k b∧After q.at_ q.bad (rdInts q.bs) l k b:=by
 have cb:=count_d w B q 8 hq hB (by decide) (by decide)
 go_enter Tryz.func127,Tryz.ntmps127
 go_wp2_with fail
 refine cb.mono ?_
 clear cb
 rintro e w2 ⟨N,k0,b0,rfl,hN,hN0,hs0,haf0⟩
 have hst:NumsD w B q N N (.slice none 0 0) (.int .i64 0) w2:=⟨0,k0,b0,none,0,[],by omega,rfl,rfl,rfl,fun x hx=>by simp at hx,Own.nil _ _ _ _,hs0,Lib.hid fun m k' b' h=>haf0.list h⟩
 clear haf0
 go_wp2_with fail
 go_loopg [3,5] N (NumsD w B q N)
 case atStart=>exact hst
 case round=>
  clear hst
  obtain ⟨i,k,b,a,c,l,hi,rfl,rfl,hll,hwf,hown,hs,haf⟩:=hrel
  by_cases hlt:i<N
  ·have t0:decide ((i:Int)<(N:Int))=true:=by simp;omega
   have cb:=num_d wr B (q.to k b) hs.at' (Nat.le_trans hB hs.turn.size)
   have hcc:(q.to k b).c=q.c:=rfl
   rw [hcc] at cb
   have hzr:=hs.turn.size
   go_wp2_with fail
   refine cb.mono ?_
   clear cb
   rintro e w3 ⟨m,k3,b3,rfl,hs3,haf3⟩
   have hwm:=toInt_wf m
   generalize m.toInt=v at*
   have hs4:=hs.trans hs3
   have hown3:Own w3 w.heap.size 3 1 a i c (l.map (Value.int .i64)):=hown.turn hs3.turn (fun x hx=>by subst hx;have:=hq.blk.lt;exact this)
   have hz3:=hs4.turn.size
   have hs5:=hs4.alloc hB (.cells #[.int .i64 v] 3)
   have hA:=hown3.alloc (.cells #[.int .i64 v] 3)
   go_wp2_with (at_builtin;refine wpList_append_row rfl _ _ 34 rfl intsT2 rfl hA rfl (RowAt.new' _ _ _ _ (by simp)) (by rfl) (by exact all_one _ rfl) (by unfold maxLen;omega) (by omega) (by simp;omega) ?_)
   intro a6 c6 w6 hown6 hg6
   have hs6:=hs5.grown hB hA hg6 (by decide)
   obtain ⟨gf,hgf⟩:∃x,gk=x+1:=⟨gk-1,by omega⟩
   have haf6:=haf.out
   rw [hgf] at haf6
   have HAF:=Lib.hid (show ∀m k' b',After k3 b3 (rdMany (rdNum q.bs) gf) m k' b'→After q.at_ q.bad (rdInts q.bs) ((l++ [v])++m) k' b' from fun m k' b' h=>by
    rw [List.append_assoc]
    exact haf6 _ _ _ (After.many haf3 h))
   clear haf6 haf
   go_wp2_with fail
   go_roundg gf
   case measure=>omega
   case rel=>
    refine ⟨i+1,k3,b3,a6,c6,l++ [v],by omega,by go_num,rfl,by simp [hll],?_,by simpa using hown6,hs6,HAF⟩
    intro x hx
    rcases List.mem_append.1 hx with hx|hx
    ·exact hwf x hx
    ·rw [List.mem_singleton.1 hx];exact hwm
  ·have t0:decide ((i:Int)<(N:Int))=false:=by simp;omega
   have hg0:gk=0:=by omega
   have haf6:=haf.out
   rw [hg0] at haf6
   have h7:=haf6 [] k b (After.none hs.at'.lo)
   rw [List.append_nil] at h7
   have H7:=Lib.hid h7
   clear haf6 haf h7
   go_wp2_with fail
   go_ret
   exact ⟨⟨a,i,c⟩,l,k,b,rfl,⟨hown,hown.row,hll,hown.le,hown.cap_le,by dsimp only;omega,hwf⟩,hs,H7.out⟩
end
end Go.Proofs.YtioigihakjlopaaGreat
