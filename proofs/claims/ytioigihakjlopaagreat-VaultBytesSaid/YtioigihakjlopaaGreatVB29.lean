/- Texts put together and cut to what is used: VRead, LogLaws. -/
import Derived.Test.YtioigihakjlopaaGreatVB28
import Derived.Deep.CutBlock
namespace Go.Proofs.YtioigihakjlopaaGreat
set_option linter.unusedVariables false
set_option linter.unusedSimpArgs false
section
open Go.RowKit
set_option maxRecDepth 20000
section
variable {w w':World} {B:Nat} {p:DeedP} {h:DeedH}
theorem DeedOwn.turn {F:Nat→Prop} (a:DeedOwn w B p h) (ht:Turn F w w') (hF:∀x,F x→x<B):DeedOwn w' B p h:=
 ⟨a.kind,a.game,a.table,a.fmt,a.n0,a.n1,a.d0.turn ht hF,a.d1.turn ht hF,a.dr.turn ht hF,a.act.turned ht hF⟩
theorem DeedOwn.cell1 {g i:Nat} {cs:Array Value} {t:TypeId} (a:DeedOwn w B p h) (hB:Blk w g cs t) (h1:t≠3) (h2:t≠157) (v:Value):DeedOwn (w.setCell ⟨g,i,none⟩ v) B p h:=
 ⟨a.kind,a.game,a.table,a.fmt,a.n0,a.n1,a.d0.cell1 hB h1 v,a.d1.cell1 hB h1 v,a.dr.cell1 hB h1 v,⟨a.act.op,a.act.side,a.act.place,a.act.target,a.act.ids.cell1 hB h1 v,a.act.pairs.cell1 hB h2 v⟩⟩
theorem DeedOwn.row1 {g:Nat} {cs:Array Value} {t:TypeId} (a:DeedOwn w B p h) (hB:Blk w g cs t) (h1:t≠3) (h2:t≠157) (cs':Array Value):DeedOwn (w.setRow g cs') B p h:=
 ⟨a.kind,a.game,a.table,a.fmt,a.n0,a.n1,a.d0.row1 hB h1 cs',a.d1.row1 hB h1 cs',a.dr.row1 hB h1 cs',⟨a.act.op,a.act.side,a.act.place,a.act.target,a.act.ids.row1 hB h1 cs',a.act.pairs.row1 hB h2 cs'⟩⟩
end
theorem ActionOwn.row1 {w:World} {B g:Nat} {p:ActionP} {h:ActionH} {cs:Array Value} {t:TypeId} (a:ActionOwn w B p h) (hB:Blk w g cs t) (h1:t≠3) (h2:t≠157) (cs':Array Value):ActionOwn (w.setRow g cs') B p h:=
 ⟨a.op,a.side,a.place,a.target,a.ids.row1 hB h1 cs',a.pairs.row1 hB h2 cs'⟩
theorem wpList_load_blkw {P:Program} {ops:Array Oper} {rest:List Oper} {o:Oper} {a:Act} {w:World} {Q:Exit→Act→World→Prop} (hw:Region.wanted o (yielded ops a.tmps)=true) (ty:TypeId) {n:Nat} (hT:AggT P ty n) (x:Operand) (ho:o.op= .load ty x)
  {g:Nat} (hx:a.eval x= .pointer (some ⟨g,0,none⟩)) {t:TypeId} {cs:Array Value} (hB:Blk w g cs t) (hn:cs.size=n)
  (h:wpList P ops Q rest (a.put o.dst (.agg cs)) w):wpList P ops Q (o::rest) a w:=by
 obtain ⟨⟨d,hu,hd⟩,hi⟩:=hT
 unfold wpList
 rw [if_pos hw]
 exact .inl (wp_load_row ty x ho g hx t cs (0,0) d hB hu (by cases d<;>simp_all [aggD]) (by rw [hi,hn]) h)
structure RdW (w:World) (X C D:Nat) (p:DeedP) (h:DeedH) (s:CS) (W:World):Prop where
 cur:∃a n c,VCur W w.heap.size C s a n c
 bX:Blk W X zeroDC 40
 bD:Blk W D (deedCells p h).toArray 40
 own:DeedOwn W (C+1) p h
 below:Below w.heap.size w W
 len:s.b.length≤1048576
section
variable {w W W1:World} {X C D:Nat} {p p':DeedP} {h h':DeedH} {s s1:CS} {a:Option Addr} {n c:Nat}
theorem RdW.turn (q:RdW w X C D p h s W) (hC:w.heap.size≤C) (hc:VCur W1 w.heap.size C s1 a n c) (ht:Turn (fun x=>x=C) W W1) (hl:s1.b.length≤s.b.length):RdW w X C D p h s1 W1:=by
 obtain ⟨a0,n0,c0,hc0⟩:=q.cur
 have e1:X≠C:=q.bX.ne hc0.cur (by decide)
 have e2:D≠C:=q.bD.ne hc0.cur (by decide)
 exact ⟨⟨_,_,_,hc⟩,(ht.block X q.bX.lt e1).trans q.bX,(ht.block D q.bD.lt e2).trans q.bD,q.own.turn ht (fun x hx=>by omega),q.below.trans (ht.below (fun x hx=>by omega) q.below.size),Nat.le_trans hl q.len⟩
theorem RdW.put (q:RdW w X C D p h s W) (hD:w.heap.size≤D) (hDX:X≠D) (i:Nat) (v:Value) (e:(deedCells p h).toArray.setIfInBounds i v=(deedCells p' h').toArray) (ho:DeedOwn (W.setCell ⟨D,i,none⟩ v) (C+1) p' h'):RdW w X C D p' h' s (W.setCell ⟨D,i,none⟩ v):=by
 obtain ⟨a0,n0,c0,hc0⟩:=q.cur
 have e2:C≠D:=hc0.cur.ne q.bD (by decide)
 refine ⟨⟨_,_,_,hc0.keep (heap_setCell_other W ⟨D,i,none⟩ C v e2) (Below.setCell (p:=⟨D,i,none⟩) (Below.refl _ _) hD v)⟩,q.bX.other _ _ hDX,?_,ho,Below.setCell (p:=⟨D,i,none⟩) q.below hD v,q.len⟩
 rw [←e];exact q.bD.set i v
end
theorem RdW.old {w W W1:World} {X C D:Nat} {p:DeedP} {h:DeedH} {s:CS} (q:RdW w X C D p h s W) (hb:Below W.heap.size W W1):RdW w X C D p h s W1:=by
 obtain ⟨a0,n0,c0,hc0⟩:=q.cur
 exact ⟨⟨a0,n0,c0,hc0.keep (hb.block C hc0.cur.lt) (hb.mono q.below.size)⟩,q.bX.old hb,q.bD.old hb,q.own.old hb,below_step q.below hb,q.len⟩
theorem RdW.putRow {w W:World} {X C D:Nat} {p p':DeedP} {h h':DeedH} {s:CS} (q:RdW w X C D p h s W) (hD:w.heap.size≤D) (hDX:X≠D) (ho:DeedOwn (W.setRow D (deedCells p' h').toArray) (C+1) p' h'):RdW w X C D p' h' s (W.setRow D (deedCells p' h').toArray):=by
 obtain ⟨a0,n0,c0,hc0⟩:=q.cur
 have e2:C≠D:=hc0.cur.ne q.bD (by decide)
 exact ⟨⟨_,_,_,hc0.keep (setRow_other W D C _ e2) (below_setRow (Below.refl _ _) hD _)⟩,q.bX.setRow_other _ _ hDX,q.bD.setRow _,ho,below_setRow q.below hD _,q.len⟩
theorem RdW.done {w W:World} {X C D:Nat} {p:DeedP} {h:DeedH} {s:CS} (q:RdW w X C D p h s W) (hC:w.heap.size≤C) (b:Bool):RdW w X C D p h ⟨[],b⟩ ((W.setCell ⟨C,1,none⟩ (.bool b)).setCell ⟨C,0,none⟩ (.slice none 0 0)):=by
 obtain ⟨a0,n0,c0,hc0⟩:=q.cur
 have e1:X≠C:=q.bX.ne hc0.cur (by decide)
 have e2:D≠C:=q.bD.ne hc0.cur (by decide)
 have c1:=hc0.cur.set 1 (.bool b)
 have c2:=c1.set 0 (.slice none 0 0)
 refine ⟨⟨none,0,0,c2,RowAt.nil _ _,rfl,Nat.le_refl _,by omega,fun h=>by omega⟩,(q.bX.other _ _ e1).other _ _ e1,(q.bD.other _ _ e2).other _ _ e2,(q.own.cell1 hc0.cur (by decide) (by decide) _).cell1 c1 (by decide) (by decide) _,Below.setCell (p:=⟨C,0,none⟩) (Below.setCell (p:=⟨C,1,none⟩) q.below hC _) hC _,by simp⟩
def VReadP (w:World) (bs:List UInt8) (e:Ending) (w':World):Prop:=
 ∃h,e= .returned (.tuple #[deedVal (readD bs).1 h,.int .i64 (readD bs).2])∧DeedOwn w' w.heap.size (readD bs).1 h∧Below w.heap.size w w'
def nilDH:DeedH:=⟨nilSl,nilSl,nilSl,nilA⟩
theorem zeroD_own (w:World) (B:Nat):DeedOwn w B zeroD nilDH:=
 ⟨rfl,rfl,rfl,Nat.zero_le _,Nat.zero_le _,Nat.zero_le _,OwnInts.nil _ _,OwnInts.nil _ _,OwnInts.nil _ _,⟨rfl,rfl,rfl,rfl,OwnInts.nil _ _,OwnPairs.nil _ _⟩⟩
theorem BytesAt.inB {w:World} {a:Option Addr} {l:List UInt8} {n:Nat} (h:BytesAt w a l) (hl:l.length=n):InB w.heap.size a n:=fun hn ad ha=>by
 obtain ⟨b,o,e,hc⟩:=h 0 (by rw [List.length_map];omega)
 rw [ha] at e
 cases e
 exact World.block_lt_of_cell? w _ hc
theorem cur_ne {w:World} {C g o:Nat} {x:Option Addr} {n c:Nat} {bd:Bool} {k:IntKind} {v:Int} (hC:Blk w C (curV x n c bd) 142) (h:w.cell? ⟨g,o,none⟩=some (.int k v)):g≠C:=by
 rintro rfl
 rw [hC.rule] at h
 have hlt:o<2:=(Array.getElem?_eq_some_iff.1 h).1
 have:o=0∨o=1:=by omega
 rcases this with e|e<;>rw [e] at h<;>simp [curV] at h
def pRaw (k g:Int):DeedP:=⟨k,g,0,emN,emN,emN,[],[],[],zeroA⟩
def RdAt (w:World) (X C:Nat) (p:DeedP) (s:CS) (v:Value) (W:World):Prop:=∃(D:Nat) (h:DeedH),v= .pointer (some ⟨D,0,none⟩)∧w.heap.size≤D∧X≠D∧RdW w X C D p h s W
theorem wf8_kind (y:UInt8):wf8 (kindD y):=by
 have h2:∀n:Fin 256,wf8 (IntKind.i8.wrap ((n.val:Nat):Int)):=by unfold wf8;decide+kernel
 exact h2 ⟨y.toNat,y.toNat_lt⟩
theorem splice0 (p:DeedP) (h:DeedH):splice zeroDC 0 (deedCells p h).toArray=(deedCells p h).toArray:=rfl
theorem rd_start {w W:World} {X C D:Nat} {s:CS} {a:Option Addr} {n c:Nat} {k g:Int} (hc:VCur W w.heap.size C s a n c) (bX:Blk W X zeroDC 40) (bD:Blk W D zeroDC 40) (hb:Below w.heap.size w W) (hD:w.heap.size≤D) (hXD:X≠D) (hk:wf8 k) (hg:wf64 g) (hl:s.b.length≤1048576):
  RdAt w X C (pRaw k g) s (.pointer (some ⟨D,0,none⟩)) (W.setRow D (splice zeroDC 0 (deedCells (pRaw k g) nilDH).toArray)):=by
 rw [splice0]
 have e:C≠D:=hc.cur.ne bD (by decide)
 exact ⟨D,nilDH,rfl,hD,hXD,⟨⟨a,n,c,hc.keep (setRow_other W D C _ e) (below_setRow (Below.refl _ _) hD _)⟩,bX.setRow_other _ _ hXD,bD.setRow _,⟨hk,hg,rfl,Nat.zero_le _,Nat.zero_le _,Nat.zero_le _,OwnInts.nil _ _,OwnInts.nil _ _,OwnInts.nil _ _,⟨rfl,rfl,rfl,rfl,OwnInts.nil _ _,OwnPairs.nil _ _⟩⟩,below_setRow hb hD _,hl⟩⟩
theorem VCur.old {w w':World} {B C:Nat} {s:CS} {a:Option Addr} {n c:Nat} (h:VCur w B C s a n c) (hb:Below w.heap.size w w') (hB:B≤w.heap.size):VCur w' B C s a n c:=h.keep (hb.block C h.cur.lt) (hb.mono hB)
theorem textC_len (s:CS):(textC s).2.b.length≤s.b.length:=Nat.le_trans (takeC_len _ _) (numC_len s)
theorem numsC_len:∀(k:Nat) (s:CS),(numsC k s).2.b.length≤s.b.length
 |0,s=>Nat.le_refl _
 |k+1,s=>Nat.le_trans (numsC_len k _) (numC_len s)
theorem listC_len (s:CS):(listC s).2.b.length≤s.b.length:=by
 unfold listC
 split
 ·exact numC_len s
 ·exact Nat.le_trans (numsC_len _ _) (numC_len s)
theorem textC_z (s:CS) (h:s.b.length≤1048576):strZ (strOf (textC s).1):=by
 unfold strZ
 rw [strOf_size]
 have h1:=numC_len s
 unfold textC takeC
 split
 ·simp
 ·dsimp only
  rw [List.length_take]
  omega
def decks0 (p:DeedP) (s:CS):DeedP×CS:=({p with dr:=(listC s).1},(listC s).2)
def decks1 (p:DeedP) (s:CS):DeedP×CS:=decks0 {p with d1:=(listC s).1} (listC s).2
def decks2 (p:DeedP) (s:CS):DeedP×CS:=decks1 {p with d0:=(listC s).1} (listC s).2
def names1 (p:DeedP) (s:CS):DeedP×CS:=decks2 {p with n1:=strOf (textC s).1} (textC s).2
def names2 (p:DeedP) (s:CS):DeedP×CS:=names1 {p with n0:=strOf (textC s).1} (textC s).2
def decksT:Nat→DeedP→CS→DeedP×CS
 |0=>decks0
 |1=>decks1
 |_=>decks2
def namesT:Nat→DeedP→CS→DeedP×CS
 |0=>decks2
 |1=>names1
 |_=>names2
def fmtT (p:DeedP) (s:CS):DeedP×CS:=names2 {p with fmt:=strOf (textC s).1} (textC s).2
def tableT (p:DeedP) (s:CS):DeedP×CS:=fmtT {p with table:=(numC s).1} (numC s).2
theorem beginC_eq (s:CS):beginC s=tableT (pRaw 1 (numC s).1) (numC s).2:=by
 simp only [beginC,mk2,mkBegin,beginT,sqC,tableT,fmtT,names2,names1,decks2,decks1,decks0,pRaw]
def RdN (w:World) (X C D:Nat) (T:DeedP×CS) (f:Nat) (i:Value) (W:World):Prop:=∃(k:Nat) (p:DeedP) (h:DeedH) (s:CS),k+f=2∧i= .int .i64 (k:Int)∧RdW w X C D p h s W∧Hid (T=namesT f p s)
def RdK (w:World) (X C D:Nat) (T:DeedP×CS) (f:Nat) (i:Value) (W:World):Prop:=∃(k:Nat) (p:DeedP) (h:DeedH) (s:CS),k+f=2∧i= .int .i64 (k:Int)∧RdW w X C D p h s W∧Hid (T=decksT f p s)
def RdE (w:World) (X C D:Nat) (T:DeedP×CS) (W:World):Prop:=∃h:DeedH,RdW w X C D T.1 h T.2 W
set_option maxHeartbeats 8000000 in
theorem vread_any (w:World) (a:Option Addr) (n cap:Nat) (bs:List UInt8) (hb:BytesAt w a bs) (hn:bs.length=n) (hm:n≤1048576) (hc:n≤cap):
  Calls Tryz.prog 30 #[.slice a n cap] w (VReadP w bs):=by
 go_enter Tryz.func30,Tryz.ntmps30
 go_upto_region 2 with (fail)
 obtain ⟨X,hX⟩:∃X,X=w.heap.size:=⟨_,rfl⟩
 rw [←hX]
 refine wp_forget (fun W=>Blk W X zeroDC 40∧VCur W w.heap.size (X+1) ⟨bs,false⟩ a n cap∧Below w.heap.size w W) ⟨by subst hX;exact Blk.new2 w _ _ _,?_,by subst hX;(try unfold Kept);repeat (first|assumption|exact Below.refl _ _|exact below_undrew (Below.refl _ _)|exact Below.mono (by assumption) (by first|(simp;done)|(simp;omega)|omega)|refine below_setRow ?_ (by first|(simp;done)|(simp;omega)|omega) _|refine Below.setCell ?_ (by first|(simp;done)|(simp;omega)|omega) _|refine Below.alloc ?_ (by first|(simp;done)|(simp;omega)|omega) _|refine below_drewN ?_ _|refine Below.drew ?_|refine below_undrew ?_|refine below_step ?_ (by assumption))⟩ ?_
 ·exact ⟨by subst hX;exact Blk.new2' w _ _ _,(hb.alloc _).alloc _,hn,hc,by omega,hb.inB hn⟩
 rintro W1 ⟨bX,hcur,hbw⟩
 have hXw:w.heap.size≤X:=Nat.le_of_eq hX.symm
 clear hX
 obtain ⟨C,hC⟩:∃C,C=X+1:=⟨_,rfl⟩
 rw [←hC] at hcur⊢
 have hXC:X≠C:=by omega
 have hCw:w.heap.size≤C:=by omega
 clear hC
 go_wp2_with fail
 refine (vtake_any w.heap.size C _ a n cap 1 _ hcur).mono ?_
 rintro e W2 ⟨a1,k1,a2,n2,c2,rfl,hk1,hr1,hc2,ht2⟩
 have bX2:Blk W2 X zeroDC 40:=(ht2.block X bX.lt hXC).trans bX
 have hbw2:Below w.heap.size w W2:=hbw.trans (ht2.below (fun x hx=>by omega) hbw.size)
 clear hcur ht2 bX hbw
 have cb:W2.cell? ⟨C,1,none⟩=some (.bool (takeC 1 ⟨bs,false⟩).2.bad):=hc2.cur.cell rfl
 match bs,hn with
 | [],hn=>
  have e1:(takeC 1 ⟨[],false⟩).2.bad=true:=rfl
  rw [e1] at cb
  go_wp2_with (refine wpList_store_blk rfl 40 deedT (.tmp 2) _ rfl rfl rfl bX2 rfl rfl (by rfl) ?_)
  exact post_blk_tmp rfl deedT rfl (bX2.setRow _) rfl rfl rfl ⟨nilDH,rfl,zeroD_own _ _,below_setRow hbw2 hXw _⟩
 |y::r,hn=>
  have e1:takeC 1 ⟨y::r,false⟩=([y],⟨r,false⟩):=by
   unfold takeC
   rw [if_neg (by simp only [List.length_cons];omega)]
   rfl
  rw [e1] at cb hc2 hr1 hk1
  dsimp only at cb hc2 hr1 hk1
  obtain ⟨kd,hkd⟩:∃kd,kd=kindD y:=⟨_,rfl⟩
  have hkw:IntKind.i8.wrap (U8 y)=kd:=hkd.symm
  have HKD:=Lib.hid hkd
  clear hkd e1
  obtain ⟨bk,ok,rfl,hrk⟩:=hr1.at (by simp)
  have hrk0:=hrk 0 (by simp)
  obtain rfl:k1=1:=by simpa using hk1.symm
  simp only [Nat.add_zero,List.getElem_cons_zero] at hrk0
  have hb5:Below W2.heap.size W2 W2:=Below.refl _ _
  go_upto_region 5 with fail
  have hne:bk≠C:=cur_ne hc2.cur hrk0
  have hbkl:=World.block_lt_of_cell? W2 _ hrk0
  have hCl:=hc2.cur.lt
  have hXl:=bX2.lt
  have hl1:(numC ⟨r,false⟩).2.b.length≤1048576:=by
   have h1:=numC_len ⟨r,false⟩
   simp only [List.length_cons] at hn
   dsimp only at h1
   omega
  go_cut [6] (fun v6 wx=>RdAt w X C (pRaw kd (numC ⟨r,false⟩).1) (numC ⟨r,false⟩).2 v6 wx)
  case first=>
   have k0:∀W,KeepAt (fun x=>x=bk) W2.drew W→W.cell? ⟨bk,ok,none⟩=some (.int .u8 (U8 y)):=fun W hW=>(World.cell?_of_block (a:=⟨bk,ok,none⟩) (hW.2 bk rfl)).trans hrk0
   refine wp_region_treeR false (KeepAt (fun x=>x=bk)) (KeepAt.refl _) (fun _ _ _ h1 h2=>KeepAt.trans h1 h2) (.step 0 (.step 1 (.step 2 (.step 3 (.step 4 (.fork [(5,(.step 6 (.step 7 (.step 8 .done)))),(7,(.step 5 (.step 6 (.step 8 .done))))])))))) (by kernel_rfl) (by kernel_rfl) (fun c a d v w h=>by cases d<;>exact h) ?_
   repeat (first|(refine tree_skip rfl (by rfl) ?_;simp only [Act.put,List.setIfInBounds_toArray,List.set])|(refine tree_quiet (v:= ?_) rfl rfl (by rfl) ?_ ?_;rotate_left;(intro W hW;go_simp);(try with_reducible rfl);simp only [Act.put,List.setIfInBounds_toArray,List.set]))
   refine tree_fork ?_
   refine tree_arm rfl (by rfl) (fun K hK=> ?_) ?_
   ·go_wp2_with fail
    refine (vnumber_any w.heap.size C _ a2 n2 c2 _ (hc2.keep (w':=W2.drew) rfl (Below.refl _ _).drew)).mono ?_
    rintro e W3 ⟨a3,n3,c3,rfl,hc3,ht3⟩
    have ht3':Turn (fun x=>x=C) W2 W3:=⟨ht3.os,ht3.tape,ht3.output,ht3.size,ht3.block⟩
    go_wp2_with fail
    refine hK _ _ ⟨ht3.size,fun x hx=>by subst hx;exact ht3.block x hbkl hne⟩ ?_
    clear hK K
    repeat (first|(refine tree_skip rfl (by rfl) ?_;simp only [Act.put,List.setIfInBounds_toArray,List.set])|(refine tree_quiet (v:= ?_) rfl rfl (by rfl) ?_ ?_;rotate_left;(intro W hW;go_simp);(try with_reducible rfl);simp only [Act.put,List.setIfInBounds_toArray,List.set]))
    refine tree_loud rfl rfl (by rfl) (fun K hK=> ?_)
    go_wp2_with fail
    have hw3:w.heap.size≤W3.heap.size:=Nat.le_trans hbw2.size ht3.size
    refine hK _ _ (KeepAt.below ((Below.refl _ W3).alloc (Nat.le_refl _) _) fun x hx=>by subst hx;exact Nat.lt_of_lt_of_le hbkl ht3.size) ?_
    clear hK K
    refine tree_loud rfl rfl (by rfl) (fun K hK=> ?_)
    refine wp_store_at 40 deedT _ _ rfl rfl rfl (Blk.new _ _ _) rfl (Nat.le_refl _) (by rfl) ?_
    have bX3:Blk W3 X zeroDC 40:=(ht3'.block X hXl hXC).trans bX2
    have hX3:X≠W3.heap.size:=by have:=bX3.lt;omega
    have hfin:=rd_start (k:=kd) (g:=(numC ⟨r,false⟩).1) ((hc3.old ((Below.refl _ W3).alloc (Nat.le_refl _) (.cells zeroDC 40)) hw3)) (bX3.alloc _) (Blk.new W3 zeroDC 40) (((hbw2.trans (ht3'.below (fun x hx=>by omega) hbw2.size)).alloc hw3 (.cells zeroDC 40))) hw3 hX3 (by rw [HKD.out];exact wf8_kind y) (numC_wf _) hl1
    refine hK _ _ ?_ ?_
    ·exact KeepAt.below (below_setRow (Below.refl W3.heap.size _) (Nat.le_refl _) _) fun x hx=>by subst hx;exact Nat.lt_of_lt_of_le hbkl ht3.size
    clear hK K
    refine tree_done ?_
    go_wp2_with fail
    go_meet
    exact hfin
   ·refine tree_arm rfl (by rfl) (fun K hK=> ?_) ?_
    ·go_wp2_with fail
     have hbA:Below W2.heap.size W2 (W2.alloc (.cells zeroDC 40)).drew:=((Below.refl _ W2).alloc (Nat.le_refl _) (.cells zeroDC 40)).drew
     refine hK _ _ (KeepAt.below (below_undrew hbA) fun x hx=>by subst hx;exact hbkl) ?_
     clear hK K
     refine tree_loud rfl rfl (by rfl) (fun K hK=> ?_)
     go_wp2_with fail
     have hcA:=hc2.old hbA hbw2.size
     have hzA:W2.heap.size<(W2.alloc (.cells zeroDC 40)).drew.heap.size:=by simp
     refine (vnumber_any w.heap.size C _ a2 n2 c2 _ hcA).mono ?_
     rintro e W3 ⟨a3,n3,c3,rfl,hc3,ht3⟩
     have hCD:C≠W2.heap.size:=by omega
     have bD3:Blk W3 W2.heap.size zeroDC 40:=(ht3.block W2.heap.size hzA (fun e=>hCD e.symm)).trans (Blk.new W2 zeroDC 40).drew
     have bX3:Blk W3 X zeroDC 40:=(ht3.block X (Nat.lt_trans hXl hzA) hXC).trans (bX2.alloc _).drew
     have hb3:Below w.heap.size w W3:=(hbw2.trans (hbA.mono hbw2.size)).trans (ht3.below (fun x hx=>by omega) (by have:=hbw2.size;omega))
     go_wp2_with fail
     refine hK _ _ ⟨ht3.size,fun x hx=>by subst hx;exact ht3.block x (Nat.lt_trans hbkl hzA) hne⟩ ?_
     clear hK K
     repeat (first|(refine tree_skip rfl (by rfl) ?_;simp only [Act.put,List.setIfInBounds_toArray,List.set])|(refine tree_quiet (v:= ?_) rfl rfl (by rfl) ?_ ?_;rotate_left;(intro W hW;go_simp);(try with_reducible rfl);simp only [Act.put,List.setIfInBounds_toArray,List.set]))
     refine tree_loud rfl rfl (by rfl) (fun K hK=> ?_)
     refine wp_store_at 40 deedT _ _ rfl rfl rfl bD3 rfl (Nat.le_refl _) (by rfl) ?_
     have hfin:=rd_start (k:=kd) (g:=(numC ⟨r,false⟩).1) hc3 bX3 bD3 hb3 hbw2.size (by omega) (by rw [HKD.out];exact wf8_kind y) (numC_wf _) hl1
     refine hK _ _ ?_ ?_
     ·exact ⟨by simp [World.setRow],fun x hx=>by subst hx;exact setRow_other W3 _ x _ (by omega)⟩
     clear hK K
     refine tree_done ?_
     go_wp2_with fail
     go_meet
     exact hfin
    ·exact tree_nil
  case rest=>
   obtain ⟨D,h0,rfl,hD,hXD,q⟩:=hcut
   have HR:=Lib.hid (show readD (y::r)=finD (rawD kd ⟨r,false⟩) by rw [HKD.out];rfl)
   obtain ⟨T,hT⟩:∃T,T=rawD kd ⟨r,false⟩:=⟨_,rfl⟩
   rw [←hT] at HR
   have HT:=Lib.hid hT
   clear hT hn hb hc2 cb bX2 hbw2 hrk hr1 hrk0 hk1 hb5 hne hbkl hCl hXl hkw hl1
   have ck:wc.cell? ⟨D,0,none⟩=some (.int .i8 kd):=q.bD.cell rfl
   go_upto_block 0 with (fail)
   go_cut [9] (fun _ wx=>RdE w X C D T wx)
   case first=>
    by_cases hk1:kd=1
    ·subst hk1
     have hT:=HT.out
     rw [show rawD 1 ⟨r,false⟩=beginC ⟨r,false⟩ from rfl,beginC_eq] at hT
     unfold tableT at hT
     generalize (numC ⟨r,false⟩).1=g at*
     generalize (numC ⟨r,false⟩).2=s1 at*
     have HT1:=Lib.hid hT
     clear hT HT HKD
     obtain ⟨a0,n0,c0,hc0⟩:=q.cur
     go_wp2_with fail
     refine (vnumber_any w.heap.size C s1 a0 n0 c0 _ hc0).mono ?_
     rintro e W1 ⟨a1,n1,c1,rfl,hc1,ht1⟩
     have q1:=q.turn hCw hc1 ht1 (numC_len s1)
     have f1:=q1.bD.free
     have l1:W1.cell? ⟨D,2,none⟩=some (.int .i64 0):=q1.bD.cell rfl
     have hwf:=numC_wf s1
     generalize (numC s1).1=t at*
     generalize (numC s1).2=s2 at*
     clear q hc0 hc1 ht1 ck
     go_upto_region 9 with fail
     refine wp_forget (fun W=>RdW w X C D {pRaw 1 g with table:=t} h0 s2 W) (q1.put hD hXD 2 _ rfl ?_) ?_
     ·have:=q1.own.cell1 (i:=2) q1.bD (by decide) (by decide) (.int .i64 t)
      exact ⟨this.kind,this.game,hwf,this.fmt,this.n0,this.n1,this.d0,this.d1,this.dr,this.act⟩
     clear q1 f1 l1
     intro W2 q
     obtain ⟨a0,n0,c0,hc0⟩:=q.cur
     go_wp2_with fail
     refine (vtext_any w.heap.size C s2 a0 n0 c0 _ hc0).mono ?_
     rintro e W1 ⟨a1,n1,c1,rfl,hc1,ht1⟩
     have q1:=q.turn hCw hc1 ht1 (textC_len s2)
     have f1:=q1.bD.free
     have l1:W1.cell? ⟨D,3,none⟩=some (.string emN):=q1.bD.cell rfl
     have hz:=textC_z s2 q.len
     have hT:=HT1.out
     unfold fmtT at hT
     generalize strOf (textC s2).1=f at*
     generalize (textC s2).2=s3 at*
     have HT2:=Lib.hid hT
     clear hT HT1 q hc0 hc1 ht1
     go_upto_region 10 with fail
     refine wp_forget (fun W=>RdN w X C D T 2 (.int .i64 0) W) ⟨0,_,h0,s3,rfl,rfl,q1.put hD hXD 3 _ rfl ?_,Lib.hid HT2.out⟩ ?_
     ·have:=q1.own.cell1 (i:=3) q1.bD (by decide) (by decide) (.string f)
      exact ⟨this.kind,this.game,this.table,hz,this.n0,this.n1,this.d0,this.d1,this.dr,this.act⟩
     clear q1 f1 l1 HT2 hz hwf
     intro W3 hst
     go_wp2_with fail
     go_loopg [7,37,38,39,40,41,42,43,44,45] 2 (fun f _ i _ _ _ _ _ _ _ _ wr=>RdN w X C D T f i wr)
     case atStart=>exact hst
     case round=>
      clear hst
      obtain ⟨k,p,h,s,hf,rfl,q,hR⟩:=hrel
      have HF:=Lib.hid hf
      clear hf
      by_cases hk:k<2
      ·have h3:k=0∨k=1:=by omega
       rcases h3 with rfl|rfl
       ·obtain ⟨a0,n0,c0,hc0⟩:=q.cur
        have hR2:Hid (T=names2 p s):=by
         have e:gk=2:=by have:=HF.out;omega
         have h:=hR.out
         rw [e] at h
         exact Lib.hid h
        clear hR
        go_wp2_with fail
        refine (vtext_any w.heap.size C s a0 n0 c0 _ hc0).mono ?_
        rintro e W1 ⟨a1,n1,c1,rfl,hc1,ht1⟩
        have q1:=q.turn hCw hc1 ht1 (textC_len s)
        have f1:=q1.bD.free
        have l1:W1.cell? ⟨D,4,none⟩=some (.string p.n0):=q1.bD.cell rfl
        have hz:=textC_z s q.len
        have hT:=hR2.out
        unfold names2 at hT
        generalize strOf (textC s).1=x at*
        generalize (textC s).2=s' at*
        have HT2:=Lib.hid hT
        clear hT hR2 q hc0 hc1 ht1
        go_wp2_with fail
        go_roundg 1
        case measure=>have:=HF.out;omega
        case rel=>
         refine ⟨0+1,{p with n0:=x},h,s',by omega,by go_num,q1.put hD hXD 4 _ rfl ?_,Lib.hid HT2.out⟩
         have:=q1.own.cell1 (i:=4) q1.bD (by decide) (by decide) (.string x)
         exact ⟨this.kind,this.game,this.table,this.fmt,by first|exact hz|exact this.n0,by first|exact hz|exact this.n1,this.d0,this.d1,this.dr,this.act⟩
       ·obtain ⟨a0,n0,c0,hc0⟩:=q.cur
        have hR2:Hid (T=names1 p s):=by
         have e:gk=1:=by have:=HF.out;omega
         have h:=hR.out
         rw [e] at h
         exact Lib.hid h
        clear hR
        go_wp2_with fail
        refine (vtext_any w.heap.size C s a0 n0 c0 _ hc0).mono ?_
        rintro e W1 ⟨a1,n1,c1,rfl,hc1,ht1⟩
        have q1:=q.turn hCw hc1 ht1 (textC_len s)
        have f1:=q1.bD.free
        have l1:W1.cell? ⟨D,5,none⟩=some (.string p.n1):=q1.bD.cell rfl
        have hz:=textC_z s q.len
        have hT:=hR2.out
        unfold names1 at hT
        generalize strOf (textC s).1=x at*
        generalize (textC s).2=s' at*
        have HT2:=Lib.hid hT
        clear hT hR2 q hc0 hc1 ht1
        go_wp2_with fail
        go_roundg 0
        case measure=>have:=HF.out;omega
        case rel=>
         refine ⟨1+1,{p with n1:=x},h,s',by omega,by go_num,q1.put hD hXD 5 _ rfl ?_,Lib.hid HT2.out⟩
         have:=q1.own.cell1 (i:=5) q1.bD (by decide) (by decide) (.string x)
         exact ⟨this.kind,this.game,this.table,this.fmt,by first|exact hz|exact this.n0,by first|exact hz|exact this.n1,this.d0,this.d1,this.dr,this.act⟩
      ·obtain rfl:k=2:=by have:=HF.out;omega
       have hR3:Hid (T=decksT 2 p s):=by
        have e:gk=0:=by have:=HF.out;omega
        have h:=hR.out
        rw [e] at h
        exact Lib.hid h
       clear hR
       have hst:RdK w X C D T 2 (.int .i64 0) wr:=⟨0,p,h,s,rfl,rfl,q,hR3⟩
       clear q hR3
       go_wp2_with fail
       go_loopg [8,46,47,48,49,50,51,52,53,54] 2 (fun f _ i _ _ _ _ _ _ _ _ wr=>RdK w X C D T f i wr)
       case atStart=>exact hst
       case round=>
        clear hst
        obtain ⟨k,p,h,s,hf,rfl,q,hR⟩:=hrel
        have HF:=Lib.hid hf
        clear hf
        by_cases hk:k<2
        ·have h3:k=0∨k=1:=by omega
         rcases h3 with rfl|rfl
         ·obtain ⟨a0,n0,c0,hc0⟩:=q.cur
          have hR2:Hid (T=decks2 p s):=by
           have e:gk=2:=by have:=HF.out;omega
           have h:=hR.out
           rw [e] at h
           exact Lib.hid h
          clear hR
          have hsz:n0≤1000000000:=by have:=hc0.hl;have:=q.len;omega
          have cb:=vlist_any w.heap.size C s a0 n0 c0 _ hc0 q.below.size hCw hsz
          have hCl:=hc0.cur.lt
          clear hsz
          go_wp2_with fail
          refine cb.mono ?_
          clear cb
          rintro e W1 ⟨⟨xa,xn,xc⟩,a1,n1,c1,rfl,ho1,hc1,ht1⟩
          have q1:=q.turn hCw hc1 ht1 (listC_len s)
          have f1:=q1.bD.free
          have l1:W1.cell? ⟨D,6,none⟩=some (.slice h.d0.a h.d0.n h.d0.c):=q1.bD.cell rfl
          have hT:=hR2.out
          unfold decks2 at hT
          replace ho1:=(ho1.lower (B':=C+1) hCl).cell1 (i:=6) q1.bD (by decide) (.slice xa xn xc)
          generalize (listC s).1=x at*
          generalize (listC s).2=s' at*
          have HT2:=Lib.hid hT
          clear hT hR2 q hc0 hc1 ht1 hCl
          go_wp2_with fail
          go_roundg 1
          case measure=>have:=HF.out;omega
          case rel=>
           refine ⟨0+1,{p with d0:=x},{h with d0:=⟨xa,xn,xc⟩},s',by omega,by go_num,q1.put hD hXD 6 _ rfl ?_,Lib.hid HT2.out⟩
           have:=q1.own.cell1 (i:=6) q1.bD (by decide) (by decide) (.slice xa xn xc)
           exact ⟨this.kind,this.game,this.table,this.fmt,this.n0,this.n1,by first|exact ho1|exact this.d0,by first|exact ho1|exact this.d1,this.dr,this.act⟩
         ·obtain ⟨a0,n0,c0,hc0⟩:=q.cur
          have hR2:Hid (T=decks1 p s):=by
           have e:gk=1:=by have:=HF.out;omega
           have h:=hR.out
           rw [e] at h
           exact Lib.hid h
          clear hR
          have hsz:n0≤1000000000:=by have:=hc0.hl;have:=q.len;omega
          have cb:=vlist_any w.heap.size C s a0 n0 c0 _ hc0 q.below.size hCw hsz
          have hCl:=hc0.cur.lt
          clear hsz
          go_wp2_with fail
          refine cb.mono ?_
          clear cb
          rintro e W1 ⟨⟨xa,xn,xc⟩,a1,n1,c1,rfl,ho1,hc1,ht1⟩
          have q1:=q.turn hCw hc1 ht1 (listC_len s)
          have f1:=q1.bD.free
          have l1:W1.cell? ⟨D,7,none⟩=some (.slice h.d1.a h.d1.n h.d1.c):=q1.bD.cell rfl
          have hT:=hR2.out
          unfold decks1 at hT
          replace ho1:=(ho1.lower (B':=C+1) hCl).cell1 (i:=7) q1.bD (by decide) (.slice xa xn xc)
          generalize (listC s).1=x at*
          generalize (listC s).2=s' at*
          have HT2:=Lib.hid hT
          clear hT hR2 q hc0 hc1 ht1 hCl
          go_wp2_with fail
          go_roundg 0
          case measure=>have:=HF.out;omega
          case rel=>
           refine ⟨1+1,{p with d1:=x},{h with d1:=⟨xa,xn,xc⟩},s',by omega,by go_num,q1.put hD hXD 7 _ rfl ?_,Lib.hid HT2.out⟩
           have:=q1.own.cell1 (i:=7) q1.bD (by decide) (by decide) (.slice xa xn xc)
           exact ⟨this.kind,this.game,this.table,this.fmt,this.n0,this.n1,by first|exact ho1|exact this.d0,by first|exact ho1|exact this.d1,this.dr,this.act⟩
        ·obtain rfl:k=2:=by have:=HF.out;omega
         obtain ⟨a0,n0,c0,hc0⟩:=q.cur
         have hR2:Hid (T=decks0 p s):=by
          have e:gk=0:=by have:=HF.out;omega
          have h:=hR.out
          rw [e] at h
          exact Lib.hid h
         clear hR
         have hsz:n0≤1000000000:=by have:=hc0.hl;have:=q.len;omega
         have cb:=vlist_any w.heap.size C s a0 n0 c0 _ hc0 q.below.size hCw hsz
         have hCl:=hc0.cur.lt
         clear hsz
         go_wp2_with fail
         refine cb.mono ?_
         clear cb
         rintro e W1 ⟨⟨xa,xn,xc⟩,a1,n1,c1,rfl,ho1,hc1,ht1⟩
         have q1:=q.turn hCw hc1 ht1 (listC_len s)
         have f1:=q1.bD.free
         have l1:W1.cell? ⟨D,8,none⟩=some (.slice h.dr.a h.dr.n h.dr.c):=q1.bD.cell rfl
         have hT:=hR2.out
         unfold decks0 at hT
         replace ho1:=(ho1.lower (B':=C+1) hCl).cell1 (i:=8) q1.bD (by decide) (.slice xa xn xc)
         generalize (listC s).1=x at*
         generalize (listC s).2=s' at*
         have HT2:=Lib.hid hT
         clear hT hR2 q hc0 hc1 ht1 hCl
         go_wp2_with fail
         go_meet
         rw [HT2.out]
         refine ⟨{h with dr:=⟨xa,xn,xc⟩},q1.put hD hXD 8 _ rfl ?_⟩
         have:=q1.own.cell1 (i:=8) q1.bD (by decide) (by decide) (.slice xa xn xc)
         exact ⟨this.kind,this.game,this.table,this.fmt,this.n0,this.n1,this.d0,this.d1,ho1,this.act⟩
    ·by_cases hk2:kd=2
     ·subst hk2
      have hT:=HT.out
      rw [show rawD 2 ⟨r,false⟩=actC ⟨r,false⟩ from rfl] at hT
      unfold actC at hT
      generalize (numC ⟨r,false⟩).1=g at*
      generalize (numC ⟨r,false⟩).2=s1 at*
      obtain ⟨a0,n0,c0,hc0⟩:=q.cur
      have c0':wc.cell? ⟨C,0,none⟩=some (.slice a0 n0 c0):=hc0.cur.cell rfl
      have cb:=readact_any wc a0 n0 c0 s1.b hc0.read hc0.hl (by rw [←hc0.hl];exact q.len)
      generalize (readA s1.b).1=pa at*
      generalize (readA s1.b).2.1=ka at*
      generalize (readA s1.b).2.2=er at*
      have HT1:=Lib.hid hT
      have hCl:=hc0.cur.lt
      clear hT HT HKD
      go_wp2_with fail
      refine cb.mono ?_
      clear cb
      rintro e W1 ⟨ha,rfl,ho1,hb1⟩
      have q1:=q.old hb1
      replace ho1:=(ho1.lower (B':=C+1) hCl)
      clear q hc0 hb1 c0' ck
      rw [actionVal_cells]
      have hbD:=q1.bD
      go_upto_region 24 with (refine wpList_store_at rfl 38 actT (.tmp 69) _ rfl rfl rfl hbD rfl (Nat.le_refl 15) (by rfl) ?_)
      rw [show splice (deedCells (pRaw 2 g) h0).toArray 9 (actionCells pa ha).toArray=(deedCells {pRaw 2 g with act:=pa} {h0 with act:=ha}).toArray from rfl]
      refine wp_forget (fun W=>RdW w X C D {pRaw 2 g with act:=pa} {h0 with act:=ha} s1 W) (q1.putRow hD hXD ?_) ?_
      ·have this:=q1.own.row1 hbD (by decide) (by decide) (deedCells {pRaw 2 g with act:=pa} {h0 with act:=ha}).toArray
       exact ⟨this.kind,this.game,this.table,this.fmt,this.n0,this.n1,this.d0,this.d1,this.dr,ho1.row1 hbD (by decide) (by decide) _⟩
      clear q1 ho1 hbD
      intro W2 q
      obtain ⟨a0,n0,c0,hc0⟩:=q.cur
      have l0:W2.cell? ⟨C,0,none⟩=some (.slice a0 n0 c0):=hc0.cur.cell rfl
      have l1:W2.cell? ⟨C,1,none⟩=some (.bool s1.bad):=hc0.cur.cell rfl
      have f0:=hc0.cur.free
      have fin:∀b,(s1.bad||decide (er≠0))=b→RdE w X C D T ((W2.setCell ⟨C,1,none⟩ (.bool b)).setCell ⟨C,0,none⟩ (.slice none 0 0)):=fun b hb=>by
       rw [HT1.out]
       unfold RdE
       dsimp only
       rw [hb]
       exact ⟨_,q.done hCw b⟩
      cases hs:s1.bad with
      |true=>
       rw [hs] at l1
       have fin:=Lib.hid (fin true (by rw [hs];rfl))
       clear hc0 q
       go_wp2_with fail
       go_meet
       exact fin.out
      |false=>
       rw [hs] at l1
       by_cases her:er=0
       ·subst her
        have fin:=Lib.hid (fin false (by rw [hs];rfl))
        clear hc0 q
        go_wp2_with fail
        go_meet
        exact fin.out
       ·have fin:=Lib.hid (fin true (by rw [hs];simpa using her))
        have e2:(er !=0)=true:=by simpa using her
        clear hc0 q
        go_wp2_with fail
        go_meet
        first
         |exact fin.out
         |(rw [e2];exact fin.out)
     ·have hT:=HT.out
      unfold rawD at hT
      rw [if_neg hk1,if_neg hk2] at hT
      have fin:Hid (RdE w X C D T wc):=by
       rw [hT]
       exact Lib.hid ⟨h0,q⟩
      clear q hT
      go_wp2_with fail
      go_meet
      exact fin.out
   case rest=>
    obtain ⟨p,s⟩:=T
    obtain ⟨h,q⟩:=hcut
    dsimp only at q
    clear HT HKD ck
    obtain ⟨a0,n0,c0,hc0⟩:=q.cur
    have l0:wc.cell? ⟨C,0,none⟩=some (.slice a0 n0 c0):=hc0.cur.cell rfl
    have l1:wc.cell? ⟨C,1,none⟩=some (.bool s.bad):=hc0.cur.cell rfl
    have hl:=Lib.hid hc0.hl
    have bX:=q.bX
    have bD:=q.bD
    have hbw:=q.below
    have hown:=q.own
    clear hc0 q
    have bad:(s.bad=true∨0<n0∨mayD p=false)→readD (y::r)=(zeroD,2):=fun e=>by
     rw [HR.out]
     unfold finD
     dsimp only
     rw [if_pos (by rw [hl.out];exact e)]
    have good:¬(s.bad=true∨0<n0∨mayD p=false)→readD (y::r)=(p,0):=fun e=>by
     rw [HR.out]
     unfold finD
     dsimp only
     rw [if_neg (by rw [hl.out];exact e)]
    have HB:=Lib.hid bad
    have HG:=Lib.hid good
    clear bad good
    cases hs:s.bad with
    |true=>
     rw [hs] at l1
     have hr:=HB.out (.inl hs)
     go_wp2_with (refine wpList_store_blk rfl 40 deedT (.tmp 2) _ rfl rfl rfl bX rfl rfl (by rfl) ?_)
     refine post_blk_tmp rfl deedT rfl (bX.setRow _) rfl rfl rfl ?_
     unfold VReadP
     rw [hr]
     exact ⟨nilDH,rfl,zeroD_own _ _,below_setRow hbw hXw _⟩
    |false=>
     rw [hs] at l1
     by_cases hn0:0<n0
     ·have hr:=HB.out (.inr (.inl hn0))
      have t1:decide ((0:Int)<(n0:Int))=true:=by simpa using hn0
      go_wp2_with (refine wpList_store_blk rfl 40 deedT (.tmp 2) _ rfl rfl rfl bX rfl rfl (by rfl) ?_)
      refine post_blk_tmp rfl deedT rfl (bX.setRow _) rfl rfl rfl ?_
      unfold VReadP
      rw [hr]
      exact ⟨nilDH,rfl,zeroD_own _ _,below_setRow hbw hXw _⟩
     ·obtain rfl:n0=0:=by omega
      have cb:=vmay_any p h wc ((hown.lower (Nat.le_trans hCw (Nat.le_succ C))).at)
      rw [deedVal_cells] at cb
      go_wp2_with (refine wpList_load_blkw (by rfl) 40 deedT (.tmp 6) rfl rfl bD rfl ?_)
      refine cb.mono ?_
      clear cb
      rintro e W3 ⟨rfl,hb3⟩
      have bX3:=bX.old hb3
      have bD3:=bD.old hb3
      have hbw3:=below_step hbw hb3
      cases hmay:mayD p with
      |false=>
       have hr:=HB.out (.inr (.inr hmay))
       go_wp2_with (refine wpList_store_blk rfl 40 deedT (.tmp 2) _ rfl rfl rfl bX3 rfl rfl (by rfl) ?_)
       refine post_blk_tmp rfl deedT rfl (bX3.setRow _) rfl rfl rfl ?_
       unfold VReadP
       rw [hr]
       exact ⟨nilDH,rfl,zeroD_own _ _,below_setRow hbw3 hXw _⟩
      |true=>
       have hr:=HG.out (by rw [hs,hmay];simp)
       go_wp2_with (first|refine wpList_load_blk rfl 40 deedT (.tmp 6) rfl rfl bD3 rfl ?_|refine wpList_store_blk rfl 40 deedT (.tmp 2) _ rfl rfl rfl bX3 rfl rfl (by rfl) ?_)
       refine post_blk_tmp rfl deedT rfl (bX3.setRow _) rfl rfl rfl ?_
       unfold VReadP
       rw [hr]
       exact ⟨h,rfl,((hown.old hb3).row1 bX3 (by decide) (by decide) _).lower (Nat.le_trans hCw (Nat.le_succ C)),below_setRow hbw3 hXw _⟩
end
section
open Go.RowKit
def recErr (m:Nat):Int:=if m=0 then 2 else if 65536<m then 3 else 0
def recOut (l:List UInt8):List UInt8:=if l.length=0∨65536<l.length then [] else record l
theorem record_all (a:Option Addr) (len cap:Nat) (l:List UInt8) (w:World) (hl:BytesAt w a l) (hlen:l.length=len):
  Calls Tryz.prog 115 #[.slice a len cap] w fun e w'=>∃a' n' c',e= .returned (.tuple #[.slice a' n' c',.int .i64 (recErr len)])∧BytesAt w' a' (recOut l)∧(recOut l).length=n'∧Below w.heap.size w w':=by
 by_cases h0:len=0
 ·subst h0
  refine (record_none a cap w).mono ?_
  rintro e w' ⟨rfl,rfl⟩
  have e:recOut l=[]:=by unfold recOut;rw [if_pos (.inl hlen)]
  exact ⟨none,0,0,rfl,by rw [e];exact RowAt.nil _ _,by rw [e];rfl,Below.refl _ _⟩
 ·by_cases h1:65536<len
  ·refine (record_long a len cap w h1).mono ?_
   rintro e w' ⟨rfl,rfl⟩
   have e:recOut l=[]:=by unfold recOut;rw [if_pos (.inr (by omega))]
   exact ⟨none,0,0,by unfold recErr;rw [if_neg h0,if_pos h1],by rw [e];exact RowAt.nil _ _,by rw [e];rfl,Below.refl _ _⟩
  ·refine (record_any a len cap l w hl hlen (by omega) (by omega)).mono ?_
   rintro e w' ⟨a',c',rfl,h,hb⟩
   have e:recOut l=record l:=by unfold recOut;rw [if_neg (by omega)]
   exact ⟨a',8+len,c',by unfold recErr;rw [if_neg h0,if_neg h1],by rw [e];exact h.row,by rw [e,record_length,hlen],hb⟩
end
end Go.Proofs.YtioigihakjlopaaGreat
