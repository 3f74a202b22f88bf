/- Texts put together and cut to what is used: Crc, Sums, LogPlain, Log. -/
import Derived.Test.YtioigihakjlopaaGreatVB01
import Derived.Test.YtioigihakjlopaaGreatRows
namespace Go.Proofs.YtioigihakjlopaaGreat
set_option linter.unusedVariables false
set_option linter.unusedSimpArgs false
section
def stp (r:BitVec 32):BitVec 32:=(r>>>1)^^^(0xedb88320#32&&& -(r&&&1#32))
def stps:Nat→BitVec 32→BitVec 32
 |0,r=>r
 |k+1,r=>stp (stps k r)
def feed (r:BitVec 32) (c:UInt8):BitVec 32:=stps 8 (r^^^c.toBitVec.setWidth 32)
def feeds (r:BitVec 32) (l:List UInt8):BitVec 32:=l.foldl feed r
def more (s:BitVec 32) (l:List UInt8):BitVec 32:= ~~~(feeds (~~~s) l)
theorem feeds_snoc (r:BitVec 32) (l:List UInt8) (c:UInt8):feeds r (l++ [c])=feed (feeds r l) c:=by simp [feeds]
theorem feeds_take (r:BitVec 32) (l:List UInt8) (k:Nat) (h:k<l.length):feeds r (l.take (k+1))=feed (feeds r (l.take k)) l[k]:=by
 rw [List.take_succ_eq_append_getElem h,feeds_snoc]
def le4 (s:BitVec 32):List UInt8:=[⟨s.setWidth 8⟩,⟨(s>>>8).setWidth 8⟩,⟨(s>>>16).setWidth 8⟩,⟨(s>>>24).setWidth 8⟩]
end
section
open Go.RowKit
theorem shr1 (r:BitVec 32):BitVec.ofInt 32 (U32 r/2)=r>>>1:=by rw [show (2:Int)=((2^1:Nat):Int) from rfl,U32_shr,ofInt_U32]
theorem neg32 (r:BitVec 32):BitVec.ofInt 32 (-U32 r%4294967296)= -r:=by rw [U32_neg,ofInt_U32]
attribute [local go_sem] bits_xor_u32 bits_and_u32 bits_or_u32 ofInt_U32 ofInt32_U8 shr1 neg32 not_u32
set_option maxHeartbeats 400000 in
theorem step_any (r:BitVec 32) (w:World):
  Calls Tryz.prog 163 #[.int .u32 (U32 r)] w fun e w'=>e= .returned (.int .u32 (U32 (stp r)))∧w=w':=by
 go_enter Tryz.func163,Tryz.ntmps163
 go_wp2
 go_ret
 exact ⟨rfl,rfl⟩
set_option maxHeartbeats 400000 in
theorem feed_any (r:BitVec 32) (c:UInt8) (b:Nat) (w:World)
  (hc:w.cell? ⟨b,0,none⟩=some (.int .u32 (U32 r))) (hf:w.frozen? ⟨b,0,none⟩=false):
  Calls Tryz.prog 162 #[.int .u8 (U8 c),.pointer (some ⟨b,0,none⟩)] w fun e w'=>e= .returned (.tuple #[])∧w.setCell ⟨b,0,none⟩ (.int .u32 (U32 (feed r c)))=w':=by
 have h0:=U8_lo c
 have h1:=U8_hi c
 go_enter Tryz.func162,Tryz.ntmps162
 go_wp2_with fail
 go_loopw [7] (fun i wr=>∃k:Nat,k≤8∧i= .int .i64 k∧w.setCell ⟨b,0,none⟩ (.int .u32 (U32 (stps k (r^^^c.toBitVec.setWidth 32))))=wr) (fun i _=>8-(intOf i).toNat)
 case atStart=>exact ⟨0,by omega,rfl,rfl⟩
 case round=>
  obtain ⟨k,hk,rfl,rfl⟩:=hrel
  by_cases hlt:k<8
  ·go_wp2_with (go_at_call 163;refine (step_any _ _).mono ?_;rintro e w' ⟨rfl,rfl⟩)
   go_roundw
   case rel=>exact ⟨k+1,by omega,by go_num,(setCell_twice _ _ _ _).symm⟩
   case measure=>simp [intOf];omega
  ·go_wp2
   go_end0
   obtain rfl:k=8:=by omega
   exact ⟨rfl,rfl⟩
theorem byte_take (l:List UInt8) (k:Nat) (h:k<l.length) (r:BitVec 32):feed (feeds r (l.take k)) l[k]=feeds r (l.take (k+1)):=(feeds_take r l k h).symm
set_option maxHeartbeats 400000 in
theorem more_any (s:BitVec 32) (a:Option Addr) (len cap:Nat) (l:List UInt8) (w:World) (hl:BytesAt w a l) (hlen:l.length=len) (hm:len≤maxLen):
  Calls Tryz.prog 135 #[.int .u32 (U32 s),.slice a len cap] w fun e w'=>e= .returned (.int .u32 (U32 (more s l)))∧Below w.heap.size w w':=by
 subst hlen
 unfold maxLen at hm
 have hmf:∀(fn:Fn) (first cap:Array Value) (w:World),(Instr.makeFunc fn first cap).run Tryz.prog w= .ok (.func fn first cap) w:=fun _ _ _ _=>rfl
 go_enter Tryz.func135,Tryz.ntmps135
 go_wp2_with fail
 go_loopw [14,8] (fun i _ wr=>∃k:Nat,k≤l.length∧i= .int .i64 k∧w.alloc (.cells #[.int .u32 (U32 (feeds (~~~s) (l.take k)))] 196)=wr) (fun i _ _=>l.length-(intOf i).toNat)
 case atStart=>exact ⟨0,by omega,rfl,rfl⟩
 case round=>
  obtain ⟨k,hk,rfl,rfl⟩:=hrel
  by_cases hlt:k<l.length
  ·obtain ⟨b,o,rfl,hc⟩:=hl.at (by omega)
   have hb:b<w.heap.size:=World.block_lt_of_cell? w _ (hc k hlt)
   have hck:∀v,(w.alloc (.cells #[v] 196)).cell? ⟨b,o+k,none⟩=some (.int .u8 (U8 l[k])):=fun v=>by
    rw [World.cell?_alloc_past _ _ _ (by simpa using hb)];exact hc k hlt
   have hr:∀v,(w.alloc (.cells #[v] 196)).cell? ⟨w.heap.size,0,none⟩=some v:=fun v=>by
    rw [World.cell?_alloc_at _ _ _ _ rfl];rfl
   have hf:∀v,(w.alloc (.cells #[v] 196)).frozen? ⟨w.heap.size,0,none⟩=false:=fun v=>World.frozen?_alloc_at _ _ _ _ rfl
   clear hc
   have hfd:=byte_take l k hlt (~~~s)
   have HF:=Lib.hid hfd
   clear hfd
   go_wp2_with (go_at_call 162;refine (feed_any _ _ _ _ (hr _) (hf _)).mono ?_;rintro e w' ⟨rfl,rfl⟩)
   go_roundw
   case rel=>exact ⟨k+1,by omega,by go_num,by rw [←HF.out]⟩
   case measure=>simp [intOf];omega
  ·have hr:∀v,(w.alloc (.cells #[v] 196)).cell? ⟨w.heap.size,0,none⟩=some v:=fun v=>by
    rw [World.cell?_alloc_at _ _ _ _ rfl];rfl
   go_wp2
   go_ret
   obtain rfl:k=l.length:=by omega
   exact ⟨by simp [more],(Below.refl _ _).alloc (Nat.le_refl _) _⟩
theorem u32Info:(Tryz.prog.info? 196).map (·.size)=some 1:=by kernel_rfl
theorem more_zero (a:Option Addr) (len cap:Nat) (l:List UInt8) (w:World) (hl:BytesAt w a l) (hlen:l.length=len) (hm:len≤maxLen):
  Calls Tryz.prog 135 #[.int .u32 0,.slice a len cap] w fun e w'=>e= .returned (.int .u32 (U32 (more 0#32 l)))∧Below w.heap.size w w':=
 more_any 0#32 a len cap l w hl hlen hm
set_option maxHeartbeats 400000 in
theorem sum_any (a:Option Addr) (len cap:Nat) (l:List UInt8) (w:World) (hl:BytesAt w a l) (hlen:l.length=len) (hm:len≤maxLen):
  Calls Tryz.prog 136 #[.slice a len cap] w fun e w'=>e= .returned (.int .u32 (U32 (more 0#32 l)))∧Below w.heap.size w w':=by
 have HL:=Lib.hid hlen
 clear hlen
 go_enter Tryz.func136,Tryz.ntmps136
 go_wp2_with fail
 refine (more_zero _ _ _ _ _ hl HL.out hm).mono ?_
 rintro e w1 ⟨rfl,hb⟩
 go_wp2_with fail
 go_ret
 exact ⟨rfl,hb⟩
theorem bytesT:RowType Tryz.prog 22 5 1 1:=RowType.mk (z:= .int .u8 0) Tryz.underlying22 (by kernel_rfl) rfl (by omega)
theorem byte_lo (s:BitVec 32):U32 s%256=U8 ⟨s.setWidth 8⟩:=U32_byte s
theorem byte_8 (s:BitVec 32):U32 s/(256:Int)%(256:Int)=U8 ⟨(s>>>8).setWidth 8⟩:=by
 have h:U32 s/(256:Int)=U32 (s>>>8):=U32_shr s 8
 rw [h];exact U32_byte _
theorem byte_16 (s:BitVec 32):U32 s/(65536:Int)%(256:Int)=U8 ⟨(s>>>16).setWidth 8⟩:=by
 have h:U32 s/(65536:Int)=U32 (s>>>16):=U32_shr s 16
 rw [h];exact U32_byte _
theorem byte_24 (s:BitVec 32):U32 s/(16777216:Int)%(256:Int)=U8 ⟨(s>>>24).setWidth 8⟩:=by
 have h:U32 s/(16777216:Int)=U32 (s>>>24):=U32_shr s 24
 rw [h];exact U32_byte _
theorem own_le4 {w:World} {B:Nat} (s:BitVec 32) (hb:B≤w.heap.size):
  Own (w.alloc (.cells #[.int .u8 (U32 s%256),.int .u8 (U32 s/256%256),.int .u8 (U32 s/65536%256),.int .u8 (U32 s/16777216%256)] 5)) B 5 1 (some ⟨w.heap.size,0,none⟩) 4 4 ((le4 s).map bv):=
 Own.lit _ _ _ (by rw [byte_lo,byte_8,byte_16,byte_24];rfl) rfl hb (by unfold maxLen;omega)
end
section
def be4 (n:Nat):List UInt8:=[UInt8.ofNat (n/16777216),UInt8.ofNat (n/65536),UInt8.ofNat (n/256),UInt8.ofNat n]
def rdBE (c0 c1 c2 c3:UInt8):Nat:=c0.toNat*16777216+c1.toNat*65536+c2.toNat*256+c3.toNat
def recSum (l:List UInt8):BitVec 32:=more (more 0#32 (be4 l.length)) l
def head8 (l:List UInt8):List UInt8:=be4 l.length++le4 (recSum l)
def record (l:List UInt8):List UInt8:=head8 l++l
theorem be4_length (n:Nat):(be4 n).length=4:=rfl
theorem head8_length (l:List UInt8):(head8 l).length=8:=rfl
theorem record_length (l:List UInt8):(record l).length=8+l.length:=by simp [record,head8_length]
theorem rdBE_be4 (c0 c1 c2 c3:UInt8):be4 (rdBE c0 c1 c2 c3)=[c0,c1,c2,c3]:=by
 have h0:c0.toNat<256:=c0.toBitVec.isLt
 have h1:c1.toNat<256:=c1.toBitVec.isLt
 have h2:c2.toNat<256:=c2.toBitVec.isLt
 have h3:c3.toNat<256:=c3.toBitVec.isLt
 have e:∀(c:UInt8) (n:Nat),n%256=c.toNat→UInt8.ofNat n=c:=by
  intro c n h
  apply UInt8.toNat.inj
  rw [UInt8.toNat_ofNat']
  simpa using h
 unfold be4 rdBE
 rw [e c0 _ (by omega),e c1 _ (by omega),e c2 _ (by omega),e c3 _ (by omega)]
theorem rdBE_lt (c0 c1 c2 c3:UInt8):rdBE c0 c1 c2 c3<4294967296:=by
 have h0:c0.toNat<256:=c0.toBitVec.isLt
 have h1:c1.toNat<256:=c1.toBitVec.isLt
 have h2:c2.toNat<256:=c2.toBitVec.isLt
 have h3:c3.toNat<256:=c3.toBitVec.isLt
 unfold rdBE;omega
theorem be4_inj {n m:Nat} (h1:n<4294967296) (h2:m<4294967296) (h:be4 n=be4 m):n=m:=by
 unfold be4 at h
 simp only [List.cons.injEq,and_true] at h
 obtain ⟨a,b,c,d⟩:=h
 have f:∀x y,UInt8.ofNat x=UInt8.ofNat y→x%256=y%256:=by
  intro x y e
  have:=congrArg UInt8.toNat e
  simpa using this
 have a:=f _ _ a
 have b:=f _ _ b
 have c:=f _ _ c
 have d:=f _ _ d
 omega
def scanN (b:List UInt8):Nat:=rdBE (b.getD 0 0) (b.getD 1 0) (b.getD 2 0) (b.getD 3 0)
def loadOf (b:List UInt8):List UInt8:=(b.drop 8).take (scanN b)
def scans (b:List UInt8):Bool:=decide (8<b.length)&&decide (1≤scanN b)&&decide (scanN b≤65536)&&decide (scanN b≤b.length-8)&&(b.take 8==head8 (loadOf b))
def scan:Nat→List UInt8→List (List UInt8)×List UInt8
 |0,b=>([],b)
 |f+1,b=>if scans b then (loadOf b::(scan f (b.drop (8+scanN b))).1,(scan f (b.drop (8+scanN b))).2) else ([],b)
theorem scan_step {f:Nat} {b:List UInt8} (h:scans b=true):scan (f+1) b=(loadOf b::(scan f (b.drop (8+scanN b))).1,(scan f (b.drop (8+scanN b))).2):=by simp [scan,h]
theorem scan_stop {f:Nat} {b:List UInt8} (h:scans b=false):scan f b=([],b):=by cases f<;>simp [scan,h]
theorem scans_short {b:List UInt8} (h:b.length≤8):scans b=false:=by
 unfold scans
 rw [decide_eq_false (by omega)];rfl
theorem loadOf_length {b:List UInt8} (h:scanN b≤b.length-8):(loadOf b).length=scanN b:=by
 unfold loadOf
 rw [List.length_take,List.length_drop];omega
theorem scans_eq {b:List UInt8} (h1:8<b.length) (h2:1≤scanN b) (h3:scanN b≤65536) (h4:scanN b≤b.length-8):scans b=(b.take 8==head8 (loadOf b)):=by
 unfold scans
 rw [decide_eq_true h1,decide_eq_true h2,decide_eq_true h3,decide_eq_true h4];rfl
theorem scans_no {b:List UInt8} (h:¬(1≤scanN b∧scanN b≤65536∧scanN b≤b.length-8)):scans b=false:=by
 unfold scans
 rw [←Bool.not_eq_true]
 simp only [Bool.and_eq_true,decide_eq_true_eq]
 omega
theorem scan_left (f:Nat) (b:List UInt8):(scan f b).2.length≤b.length:=by
 induction f generalizing b with
 |zero=>simp [scan]
 |succ f ih=>
  by_cases h:scans b=true
  ·rw [scan_step h]
   have:=ih (b.drop (8+scanN b))
   rw [List.length_drop] at this
   show (scan f (b.drop (8+scanN b))).2.length≤_
   omega
  ·rw [scan_stop (by simpa using h)];exact Nat.le_refl _
theorem scan_count (f:Nat) (b:List UInt8):(scan f b).1.length≤f:=by
 induction f generalizing b with
 |zero=>simp [scan]
 |succ f ih=>
  by_cases h:scans b=true
  ·rw [scan_step h]
   have:=ih (b.drop (8+scanN b))
   simp only [List.length_cons];omega
  ·rw [scan_stop (by simpa using h)];simp
theorem scans_bytes (c0 c1 c2 c3 d0 d1 d2 d3:UInt8) (m:List UInt8) (hm:m≠ []) (h1:1≤rdBE c0 c1 c2 c3) (h2:rdBE c0 c1 c2 c3≤65536) (h3:rdBE c0 c1 c2 c3≤m.length):
  scans (c0::c1::c2::c3::d0::d1::d2::d3::m)=([d0,d1,d2,d3]==le4 (recSum (m.take (rdBE c0 c1 c2 c3)))):=by
 have hl:(m.take (rdBE c0 c1 c2 c3)).length=rdBE c0 c1 c2 c3:=by rw [List.length_take];omega
 have hp:0<m.length:=List.length_pos_iff.2 hm
 have e:scanN (c0::c1::c2::c3::d0::d1::d2::d3::m)=rdBE c0 c1 c2 c3:=rfl
 rw [scans_eq (by simp only [List.length_cons];omega) (by rw [e];exact h1) (by rw [e];exact h2) (by rw [e];simp only [List.length_cons];omega)]
 show ([c0,c1,c2,c3,d0,d1,d2,d3]==be4 (m.take (rdBE c0 c1 c2 c3)).length++le4 (recSum (m.take (rdBE c0 c1 c2 c3))))=_
 rw [hl,rdBE_be4]
 simp
theorem recSum_of (c0 c1 c2 c3:UInt8) (l:List UInt8) (h:l.length=rdBE c0 c1 c2 c3):more (more 0#32 [c0,c1,c2,c3]) l=recSum l:=by
 unfold recSum
 rw [h,rdBE_be4]
theorem scan_done {most f:Nat} {b r:List UInt8} {done:List (List UInt8)} (h:scan most b=(done++(scan f r).1,(scan f r).2)) (hf:f=0∨scans r=false):scan most b=(done,r):=by
 have:scan f r=([],r):=by
  rcases hf with rfl|hf
  ·rfl
  ·exact scan_stop hf
 rw [h,this];simp
theorem scan_more {most f:Nat} {b r:List UInt8} {done:List (List UInt8)} (h:scan most b=(done++(scan (f+1) r).1,(scan (f+1) r).2)) (hf:scans r=true):
  scan most b=((done++ [loadOf r])++(scan f (r.drop (8+scanN r))).1,(scan f (r.drop (8+scanN r))).2):=by
 rw [h,scan_step hf];simp
theorem eight {r:List UInt8} (h:8<r.length):∃c0 c1 c2 c3 d0 d1 d2 d3 m,r=c0::c1::c2::c3::d0::d1::d2::d3::m∧m≠ []:=by
 match r,h with
 |c0::c1::c2::c3::d0::d1::d2::d3::x::m,_=>exact ⟨c0,c1,c2,c3,d0,d1,d2,d3,x::m,rfl,by simp⟩
theorem scanN_record (l m:List UInt8) (h:l.length<4294967296):scanN (record l++m)=l.length:=by
 have e:be4 (scanN (record l++m))=be4 l.length:=by
  unfold scanN
  rw [rdBE_be4]
  rfl
 exact be4_inj (rdBE_lt _ _ _ _) h e
theorem drop_record (l m:List UInt8):(record l++m).drop 8=l++m:=rfl
theorem take_record (l m:List UInt8):(record l++m).take 8=head8 l:=rfl
theorem loadOf_record (l m:List UInt8) (h:l.length<4294967296):loadOf (record l++m)=l:=by
 unfold loadOf
 rw [scanN_record l m h,drop_record,List.take_left]
theorem scans_record (l m:List UInt8) (h1:1≤l.length) (h2:l.length≤65536):scans (record l++m)=true:=by
 rw [scans_eq,loadOf_record l m (by omega),take_record,BEq.rfl]
 ·rw [List.length_append,record_length];omega
 ·rw [scanN_record l m (by omega)];exact h1
 ·rw [scanN_record l m (by omega)];exact h2
 ·rw [scanN_record l m (by omega),List.length_append,record_length];omega
theorem scan_record (f:Nat) (l m:List UInt8) (h1:1≤l.length) (h2:l.length≤65536):scan (f+1) (record l++m)=(l::(scan f m).1,(scan f m).2):=by
 rw [scan_step (scans_record l m h1 h2),loadOf_record l m (by omega),scanN_record l m (by omega)]
 have e:(record l++m).drop (8+l.length)=m:=by rw [←record_length,List.drop_left]
 rw [e]
def records (ls:List (List UInt8)):List UInt8:=(ls.map record).flatten
theorem records_cons (l:List UInt8) (ls:List (List UInt8)):records (l::ls)=record l++records ls:=by simp [records]
theorem records_snoc (l:List UInt8) (ls:List (List UInt8)):records (ls++ [l])=records ls++record l:=by simp [records]
def Fair (ls:List (List UInt8)):Prop:=∀l∈ls,1≤l.length∧l.length≤65536
theorem scan_records (f:Nat) (ls:List (List UInt8)) (m:List UInt8) (h:Fair ls) (hf:ls.length≤f):scan f (records ls++m)=(ls++(scan (f-ls.length) m).1,(scan (f-ls.length) m).2):=by
 induction ls generalizing f with
 |nil=>simp [records]
 |cons l ls ih=>
  obtain ⟨h1,h2⟩:=h l List.mem_cons_self
  cases f with
  |zero=>simp at hf
  |succ f=>
   rw [records_cons,List.append_assoc,scan_record f l _ h1 h2,ih f (fun x hx=>h x (List.mem_cons_of_mem _ hx)) (by simpa using hf)]
   simp only [List.length_cons,Nat.add_sub_add_right,List.cons_append]
end
section
open Go.RowKit
theorem clone_any (a:Option Addr) (len cap:Nat) (l:List UInt8) (w:World) (hl:BytesAt w a l) (hlen:l.length=len) (hm:len≤140737488351232):
  Calls Tryz.prog 48 #[.slice a len cap] w fun e w'=>∃a' c',e= .returned (.slice a' len c')∧Own w' w.heap.size 5 1 a' len c' (l.map bv)∧Below w.heap.size w w':=by
 have HL:=Lib.hid hlen
 clear hlen
 have q:∀(w:World) (a:Option Addr) (n c n' c':Nat),(binOp .eql 22 (.slice a n c) (.slice none n' c')).run Tryz.prog w= .ok (.bool a.isNone) w:=fun w a n c n' c'=>Lib.run_eql_slice_nil w _ _ a n c n' c' Tryz.underlying22
 cases a with
 |none=>
  have hl0:l=[]:=by
   refine List.eq_nil_of_length_eq_zero (Nat.eq_zero_of_not_pos fun h=> ?_)
   obtain ⟨_,_,e,_⟩:=hl 0 (by simpa using h)
   cases e
  subst hl0
  have h0:len=0:=HL.out.symm
  go_enter Tryz.func48,Tryz.ntmps48
  go_wp2_with fail
  go_ret
  exact ⟨none,0,by rw [h0];rfl,by rw [h0];exact Own.nil _ _ _ _,Below.refl _ _⟩
 |some x=>
  go_enter Tryz.func48,Tryz.ntmps48
  have hown:Own (w.alloc (.cells #[] 5)) w.heap.size 5 1 (some ⟨w.heap.size,0,none⟩) 0 0 []:=Own.lit _ _ _ rfl rfl (Nat.le_refl _) (by unfold maxLen;omega)
  go_wp2_with (at_builtin;refine wpList_append_row rfl _ _ 22 rfl bytesT rfl hown rfl (hl.alloc _) (by rw [List.length_map,HL.out,Nat.mul_one]) (bv_one _) (by unfold maxLen;omega) (by omega) (by simp) ?_)
  intro a1 c1 w1 hown1 hg1
  go_wp2_with fail
  go_ret
  refine ⟨a1,c1,?_,?_,hown.grown ((Below.refl _ _).alloc (Nat.le_refl _) _) (Nat.le_refl _) hg1 (by simp)⟩
  ·first|rfl|simp
  ·simpa using hown1
theorem be4_byte (n k:Nat):((n:Int)/(k:Int))%256=U8 (UInt8.ofNat (n/k)):=by
 simp [U8]
theorem own_be4 {w:World} {B:Nat} (n:Nat) (hb:B≤w.heap.size):
  Own (w.alloc (.cells #[.int .u8 ((n:Int)/16777216%256),.int .u8 ((n:Int)/65536%256),.int .u8 ((n:Int)/256%256),.int .u8 ((n:Int)%256)] 5)) B 5 1 (some ⟨w.heap.size,0,none⟩) 4 4 ((be4 n).map bv):=by
 refine Own.lit _ _ _ ?_ rfl hb (by unfold maxLen;omega)
 have h:=be4_byte n
 have h3:(n:Int)%256=U8 (UInt8.ofNat n):=by simp [U8]
 have a:=h 16777216
 have b:=h 65536
 have c:=h 256
 simp only [be4,List.map_cons,List.map_nil,bv]
 rw [←a,←b,←c,←h3];rfl
theorem own_be4' {w:World} {B:Nat} (n:Nat) (h:n≤65536) (hb:B≤w.heap.size):
  Own (w.alloc (.cells #[.int .u8 ((n:Int)/16777216),.int .u8 ((n:Int)/65536),.int .u8 ((n:Int)/256%256),.int .u8 ((n:Int)%256)] 5)) B 5 1 (some ⟨w.heap.size,0,none⟩) 4 4 ((be4 n).map bv):=by
 have a:(n:Int)/16777216=(n:Int)/16777216%256:=by omega
 have b:(n:Int)/65536=(n:Int)/65536%256:=by omega
 rw [a,b];exact own_be4 n hb
set_option maxHeartbeats 400000 in
theorem record_any (a:Option Addr) (len cap:Nat) (l:List UInt8) (w:World) (hl:BytesAt w a l) (hlen:l.length=len) (h1:1≤len) (h2:len≤65536):
  Calls Tryz.prog 115 #[.slice a len cap] w fun e w'=>∃a' c',e= .returned (.tuple #[.slice a' (8+len) c',.int .i64 0])∧Own w' w.heap.size 5 1 a' (8+len) c' ((record l).map bv)∧Below w.heap.size w w':=by
 have HL:=Lib.hid hlen
 clear hlen
 have t1:decide ((len:Int)=0)=false:=by simp;omega
 have t1':((len:Int)==0)=false:=by simp;omega
 have t2:decide ((65536:Int)<(len:Int))=false:=by simp;omega
 go_enter Tryz.func115,Tryz.ntmps115
 go_wp2_with fail
 have hown:=own_be4' (w:=w) (B:=w.heap.size) len h2 (Nat.le_refl _)
 refine (sum_any _ _ _ _ _ hown.row (be4_length _) (by unfold maxLen;omega)).mono ?_
 rintro e w1 ⟨rfl,hb⟩
 have hb01:Below w.heap.size w w1:=below_step ((Below.refl _ w).alloc (Nat.le_refl _) _) hb
 go_wp2_with fail
 refine (more_any _ _ _ _ l _ (hl.below hb01) HL.out (by unfold maxLen;omega)).mono ?_
 rintro e w2 ⟨rfl,hb2⟩
 have hb02:=below_step hb01 hb2
 have HS:=Lib.hid (show more (more 0#32 (be4 len)) l=recSum l by unfold recSum;rw [HL.out])
 rw [HS.out]
 have hown2:=(hown.old hb).old hb2
 have hown3:=own_le4 (w:=w2) (B:=w2.heap.size) (recSum l) (Nat.le_refl _)
 go_wp2_with (at_builtin;refine wpList_append_row rfl _ _ 22 rfl bytesT rfl (hown2.alloc _) rfl hown3.row (by rfl) (bv_one _) (by unfold maxLen;omega) (by omega) (by simp;exact Nat.le_succ_of_le hb02.size) ?_)
 intro a4 c4 w4 hown4 hg4
 have hb4:=(hown2.alloc _).grown (below_step hb02 ((Below.refl _ w2).alloc (Nat.le_refl _) _)) (Nat.le_refl _) hg4 (by simp;exact Nat.le_succ_of_le hb02.size)
 go_wp2_with (at_builtin;refine wpList_append_row rfl _ _ 22 rfl bytesT rfl hown4 rfl (hl.below hb4) (by rw [List.length_map,HL.out,Nat.mul_one]) (bv_one _) (by unfold maxLen;omega) (by omega) hb4.size ?_)
 intro a5 c5 w5 hown5 hg5
 go_wp2_with fail
 go_ret2
 refine ⟨a5,c5,rfl,?_,hown4.grown hb4 (Nat.le_refl _) hg5 hb4.size⟩
 simpa [record,head8,HL.out] using hown5
theorem record_none (a:Option Addr) (cap:Nat) (w:World):
  Calls Tryz.prog 115 #[.slice a 0 cap] w fun e w'=>e= .returned (.tuple #[.slice none 0 0,.int .i64 2])∧w'=w:=by
 go_enter Tryz.func115,Tryz.ntmps115
 go_wp2_with fail
 go_ret2
 exact ⟨rfl,rfl⟩
theorem record_long (a:Option Addr) (len cap:Nat) (w:World) (h:65536<len):
  Calls Tryz.prog 115 #[.slice a len cap] w fun e w'=>e= .returned (.tuple #[.slice none 0 0,.int .i64 3])∧w'=w:=by
 have t1:((len:Int)==0)=false:=by simp;omega
 have t2:decide ((65536:Int)<(len:Int))=true:=by simp;omega
 go_enter Tryz.func115,Tryz.ntmps115
 go_wp2_with fail
 go_ret2
 exact ⟨rfl,rfl⟩
theorem or_low (x y k:Nat) (hy:y<2^k) (h:x*2^k+y<9223372036854775808):bits .or .i64 ((x*2^k:Nat):Int) ((y:Nat):Int)=((x*2^k+y:Nat):Int):=by
 have hx:x*2^k<9223372036854775808:=by omega
 have hy':y<9223372036854775808:=by omega
 have e:(BitVec.ofInt 64 ((x*2^k:Nat):Int)|||BitVec.ofInt 64 ((y:Nat):Int)).toNat=x*2^k+y:=by
  rw [BitVec.toNat_or,BitVec.toNat_ofInt,BitVec.toNat_ofInt]
  rw [show (((x*2^k:Nat):Int)%((2^64:Nat):Int)).toNat=x*2^k by omega,show (((y:Nat):Int)%((2^64:Nat):Int)).toNat=y by omega]
  rw [Nat.mul_comm x,←Nat.two_pow_add_eq_or_of_lt hy]
 show IntKind.i64.wrap (((BitVec.ofInt 64 ((x*2^k:Nat):Int)|||BitVec.ofInt 64 ((y:Nat):Int)).toNat:Nat):Int)=_
 rw [e,IntWalk.i64_in _ (by omega)]
theorem orBE (c0 c1 c2 c3:UInt8):bits .or .i64 (bits .or .i64 (bits .or .i64 (wrap64 (wrap64 (U8 c0)*16777216)) (wrap64 (wrap64 (U8 c1)*65536))) (wrap64 (wrap64 (U8 c2)*256))) (wrap64 (U8 c3))=(rdBE c0 c1 c2 c3:Int):=by
 have h0:c0.toNat<256:=c0.toBitVec.isLt
 have h1:c1.toNat<256:=c1.toBitVec.isLt
 have h2:c2.toNat<256:=c2.toBitVec.isLt
 have h3:c3.toNat<256:=c3.toBitVec.isLt
 have w0:∀c:UInt8,wrap64 (U8 c)=U8 c:=fun c=>IntWalk.wrap64_in _ ⟨by have:=U8_lo c;omega,by have:=U8_hi c;omega⟩
 have w1:∀(c:UInt8) (k:Int),0≤k→k≤16777216→wrap64 (U8 c*k)=U8 c*k:=by
  intro c k hk0 hk1
  have a:=U8_lo c
  have b:=U8_hi c
  have e1:0≤U8 c*k:=Int.mul_nonneg a hk0
  have e2:U8 c*k≤256*16777216:=Int.mul_le_mul (by omega) hk1 hk0 (by omega)
  exact IntWalk.wrap64_in _ ⟨by omega,by omega⟩
 rw [w0,w0,w0,w0,w1 _ _ (by omega) (by omega),w1 _ _ (by omega) (by omega),w1 _ _ (by omega) (by omega)]
 have a:U8 c0*16777216=((c0.toNat*2^24:Nat):Int):=by simp [U8]
 have b:U8 c1*65536=((c1.toNat*2^16:Nat):Int):=by simp [U8]
 have c:U8 c2*256=((c2.toNat*2^8:Nat):Int):=by simp [U8]
 have d:U8 c3=((c3.toNat:Nat):Int):=rfl
 rw [a,b,c,d,or_low _ _ 24 (by omega) (by omega),show c0.toNat*2^24+c1.toNat*2^16=(c0.toNat*256+c1.toNat)*2^16 by omega,or_low _ _ 16 (by omega) (by omega),
  show (c0.toNat*256+c1.toNat)*2^16+c2.toNat*2^8=((c0.toNat*256+c1.toNat)*256+c2.toNat)*2^8 by omega,or_low _ _ 8 (by omega) (by omega)]
 unfold rdBE
 omega
end
end Go.Proofs.YtioigihakjlopaaGreat
