/- Texts put together and cut to what is used: VRRead. -/
import Derived.Test.YtioigihakjlopaaGreatVB41
import Derived.Test.YtioigihakjlopaaGreatVB44
namespace Go.Proofs.YtioigihakjlopaaGreat
set_option linter.unusedVariables false
set_option linter.unusedSimpArgs false
section
open Go.RowKit
set_option maxRecDepth 20000
theorem textF_z (s:CS) (h:(numC s).2.b.length≤1048576):strZ (strOf (textF s).1):=by
 unfold strZ
 rw [strOf_size]
 have h1:=countF_le s 1 (by decide)
 unfold textF
 dsimp only
 rw [List.length_take]
 have h2:(countF 1 s).2.b.length≤1048576:=by
  unfold countF;split
  ·exact h
  ·exact h
 omega
structure FW (w:World) (X C D:Nat) (a:Option Addr) (cap:Nat) (bs:List UInt8) (p:DeedP) (h:DeedH) (s:CS) (W:World):Prop where
 cur:FAt W w.heap.size C a cap bs s
 bX:Blk W X zeroDC 40
 bD:Blk W D (deedCells p h).toArray 40
 own:DeedOwn W (C+1) p h
 below:Below w.heap.size w W
section
variable {w W W1:World} {X C D:Nat} {p p':DeedP} {h h':DeedH} {s s1:CS} {a:Option Addr} {cap:Nat} {bs:List UInt8}
theorem FAt.blk (h:FAt W w.heap.size C a cap bs s):∃k,Blk W C (fcV a bs.length cap k s.bad) 149:=by
 obtain ⟨k,h,-⟩:=h
 exact ⟨k,h.blk⟩
theorem FW.turn (q:FW w X C D a cap bs p h s W) (hC:w.heap.size≤C) (hc:FAt W1 w.heap.size C a cap bs s1) (ht:Turn (fun x=>x=C) W W1):FW w X C D a cap bs p h s1 W1:=by
 obtain ⟨k,hk⟩:=q.cur.blk
 have e1:X≠C:=q.bX.ne hk (by decide)
 have e2:D≠C:=q.bD.ne hk (by decide)
 exact ⟨hc,(ht.block X q.bX.lt e1).trans q.bX,(ht.block D q.bD.lt e2).trans q.bD,q.own.turn ht (fun x hx=>by omega),q.below.trans (ht.below (fun x hx=>by omega) q.below.size)⟩
theorem FW.put (q:FW w X C D a cap bs p h s W) (hD:w.heap.size≤D) (hDX:X≠D) (i:Nat) (v:Value) (e:(deedCells p h).toArray.setIfInBounds i v=(deedCells p' h').toArray) (ho:DeedOwn (W.setCell ⟨D,i,none⟩ v) (C+1) p' h'):FW w X C D a cap bs p' h' s (W.setCell ⟨D,i,none⟩ v):=by
 obtain ⟨k,hk⟩:=q.cur.blk
 have e2:C≠D:=hk.ne q.bD (by decide)
 refine ⟨q.cur.keep (heap_setCell_other W ⟨D,i,none⟩ C v e2) (Below.setCell (p:=⟨D,i,none⟩) (Below.refl _ _) hD v),q.bX.other _ _ hDX,?_,ho,Below.setCell (p:=⟨D,i,none⟩) q.below hD v⟩
 rw [←e];exact q.bD.set i v
theorem FW.old (q:FW w X C D a cap bs p h s W) (hb:Below W.heap.size W W1):FW w X C D a cap bs p h s W1:=
 ⟨q.cur.keep (hb.block C q.cur.lt) (hb.mono q.below.size),q.bX.old hb,q.bD.old hb,q.own.old hb,below_step q.below hb⟩
theorem FW.putRow (q:FW w X C D a cap bs p h s W) (hD:w.heap.size≤D) (hDX:X≠D) (ho:DeedOwn (W.setRow D (deedCells p' h').toArray) (C+1) p' h'):FW w X C D a cap bs p' h' s (W.setRow D (deedCells p' h').toArray):=by
 obtain ⟨k,hk⟩:=q.cur.blk
 have e2:C≠D:=hk.ne q.bD (by decide)
 exact ⟨q.cur.keep (setRow_other W D C _ e2) (below_setRow (Below.refl _ _) hD _),q.bX.setRow_other _ _ hDX,q.bD.setRow _,ho,below_setRow q.below hD _⟩
theorem FAt.max (h:FAt W w.heap.size C a cap bs s):s.b.length≤1048576:=by
 obtain ⟨k,h,e⟩:=h
 rw [e,List.length_drop]
 have:=h.max
 omega
end
def FRdN (w:World) (X C D:Nat) (a:Option Addr) (cap:Nat) (bs:List UInt8) (T:DeedP×CS) (f:Nat) (i:Value) (W:World):Prop:=∃(k:Nat) (p:DeedP) (h:DeedH) (s:CS),k+f=2∧i= .int .i64 (k:Int)∧FW w X C D a cap bs p h s W∧Hid (T=fnamesT f p s)
def FRdK (w:World) (X C D:Nat) (a:Option Addr) (cap:Nat) (bs:List UInt8) (T:DeedP×CS) (f:Nat) (i:Value) (W:World):Prop:=∃(k:Nat) (p:DeedP) (h:DeedH) (s:CS),k+f=2∧i= .int .i64 (k:Int)∧FW w X C D a cap bs p h s W∧Hid (T=fdecksT f p s)
def FRdE (w:World) (X C D:Nat) (a:Option Addr) (cap:Nat) (bs:List UInt8) (T:DeedP×CS) (W:World):Prop:=∃h:DeedH,FW w X C D a cap bs T.1 h T.2 W
def FRdC (w:World) (X C D:Nat) (a:Option Addr) (cap:Nat) (bs:List UInt8) (kd g:Int) (s1:CS) (T:DeedP×CS) (wx:World):Prop:=
 ((kd=2∧FRdE w X C D a cap bs T wx)∨(kd≠2∧FW w X C D a cap bs (pRaw kd g) nilDH s1 wx))∧wx.cell? ⟨D,0,none⟩=some (.int .i8 kd)
set_option maxHeartbeats 8000000 in
theorem fread_any (w:World) (a:Option Addr) (n cap:Nat) (bs:List UInt8) (hb:BytesAt w a bs) (hn:bs.length=n) (hm:n≤1048576) (hc:n≤cap):
  Calls Tryz.prog 31 #[.slice a n cap] w (VReadP w bs):=by
 match bs,hn with
 | [],hn=>
  obtain rfl:n=0:=by simpa using hn.symm
  go_enter Tryz.func31,Tryz.ntmps31
  go_upto_region 2 with (fail)
  obtain ⟨X,hX⟩:∃X,X=w.heap.size:=⟨_,rfl⟩
  rw [←hX]
  refine wp_forget (fun W=>Blk W X zeroDC 40∧Below w.heap.size w W) ⟨by subst hX;exact Blk.new w _ _,by subst hX;(try unfold Kept);repeat (first|assumption|exact Below.refl _ _|exact below_undrew (Below.refl _ _)|exact Below.mono (by assumption) (by first|(simp;done)|(simp;omega)|omega)|refine below_setRow ?_ (by first|(simp;done)|(simp;omega)|omega) _|refine Below.setCell ?_ (by first|(simp;done)|(simp;omega)|omega) _|refine Below.alloc ?_ (by first|(simp;done)|(simp;omega)|omega) _|refine below_drewN ?_ _|refine Below.drew ?_|refine below_undrew ?_|refine below_step ?_ (by assumption))⟩ ?_
  rintro W1 ⟨bX,hbw⟩
  have hXw:w.heap.size≤X:=Nat.le_of_eq hX.symm
  clear hX
  go_wp2_with (refine wpList_store_blk rfl 40 deedT (.tmp 2) _ rfl rfl rfl bX rfl rfl (by rfl) ?_)
  exact post_blk_tmp rfl deedT rfl (bX.setRow _) rfl rfl rfl ⟨nilDH,rfl,zeroD_own _ _,below_setRow hbw hXw _⟩
 |y::r,hn=>
  have d0:decide ((n:Int)<1)=false:=by rw [←hn,List.length_cons];exact decide_eq_false (by omega)
  obtain ⟨bk,ok,rfl,hrk⟩:=hb.at (by simp)
  have hrk0:=hrk 0 (by simp)
  simp only [Nat.add_zero,List.getElem_cons_zero] at hrk0
  have hbkl:=World.block_lt_of_cell? w _ hrk0
  have hi0:(0:Int)<(n:Int):=by rw [←hn,List.length_cons];omega
  go_enter Tryz.func31,Tryz.ntmps31
  go_upto_region 4 with (fail)
  obtain ⟨X,hX⟩:∃X,X=w.heap.size:=⟨_,rfl⟩
  rw [←hX]
  refine wp_forget (fun W=>Blk W X zeroDC 40∧FAt W w.heap.size (X+1) (some ⟨bk,ok,none⟩) cap (y::r) ⟨r,false⟩∧Below w.heap.size w W) ⟨by subst hX;exact Blk.new2 w _ _ _,?_,by subst hX;(try unfold Kept);repeat (first|assumption|exact Below.refl _ _|exact below_undrew (Below.refl _ _)|exact Below.mono (by assumption) (by first|(simp;done)|(simp;omega)|omega)|refine below_setRow ?_ (by first|(simp;done)|(simp;omega)|omega) _|refine Below.setCell ?_ (by first|(simp;done)|(simp;omega)|omega) _|refine Below.alloc ?_ (by first|(simp;done)|(simp;omega)|omega) _|refine below_drewN ?_ _|refine Below.drew ?_|refine below_undrew ?_|refine below_step ?_ (by assumption))⟩ ?_
  ·refine ⟨1,⟨?_,(hb.alloc _).alloc _,hb.inB rfl,by omega,by simp,by rw [hn];omega,by rw [hn];exact hc⟩,rfl⟩
   rw [hn]
   subst hX;exact Blk.new2' w _ _ _
  rintro W1 ⟨bX,hcur,hbw⟩
  have hXw:w.heap.size≤X:=Nat.le_of_eq hX.symm
  clear hX
  obtain ⟨C,hC⟩:∃C,C=X+1:=⟨_,rfl⟩
  rw [←hC] at hcur⊢
  have hXC:X≠C:=by omega
  have hCw:w.heap.size≤C:=by omega
  clear hC
  have hcell:W1.cell? ⟨bk,ok,none⟩=some (.int .u8 (U8 y)):=(hbw.cell (p:=⟨bk,ok,none⟩) hbkl).trans hrk0
  obtain ⟨kd,hkd⟩:∃kd,kd=kindD y:=⟨_,rfl⟩
  have hkw:IntKind.i8.wrap (U8 y)=kd:=hkd.symm
  have hwk:wf8 kd:=by rw [hkd];exact wf8_kind y
  have HKD:=Lib.hid hkd
  clear hkd hrk hrk0
  have HWK:=Lib.hid hwk
  clear hwk
  go_upto_region 5 with (refine wpList_store_blk rfl 40 deedT (.tmp 5) _ rfl rfl rfl (Blk.new _ _ _) rfl rfl (by rfl) ?_)
  obtain ⟨D,hD⟩:∃D,D=W1.heap.size:=⟨_,rfl⟩
  rw [←hD]
  refine wp_forget (fun W=>FW w X C D (some ⟨bk,ok,none⟩) cap (y::r) (pRaw kd 0) nilDH ⟨r,false⟩ W) ?_ ?_
  ·have bD:=(Blk.new W1 zeroDC 40).setRow (splice zeroDC 0 (deedCells (pRaw kd 0) nilDH).toArray)
   rw [splice0] at bD
   have hbW:Below W1.heap.size W1 ((W1.alloc (.cells zeroDC 40)).setRow D (deedCells (pRaw kd 0) nilDH).toArray):=below_setRow ((Below.refl _ _).alloc (Nat.le_refl _) _) (Nat.le_of_eq hD.symm) _
   have fw:FW w X C D (some ⟨bk,ok,none⟩) cap (y::r) (pRaw kd 0) nilDH ⟨r,false⟩ ((W1.alloc (.cells zeroDC 40)).setRow D (deedCells (pRaw kd 0) nilDH).toArray):=
    ⟨hcur.keep (hbW.block C hcur.lt) (hbW.mono hbw.size),bX.old hbW,by rw [hD];exact bD,⟨HWK.out,rfl,rfl,Nat.zero_le _,Nat.zero_le _,Nat.zero_le _,OwnInts.nil _ _,OwnInts.nil _ _,OwnInts.nil _ _,⟨rfl,rfl,rfl,rfl,OwnInts.nil _ _,OwnPairs.nil _ _⟩⟩,below_step hbw hbW⟩
   exact fw
  have hXD:X≠D:=by have:=bX.lt;omega
  have hwD:w.heap.size≤D:=by rw [hD];exact hbw.size
  clear hcur hcell hkw bX hbw hD
  intro W2 q
  have cb:=fnumber_any W2 w.heap.size C _ cap _ _ q.cur q.below.size
  go_wp2_with fail
  refine cb.mono ?_
  clear cb
  rintro e W3 ⟨rfl,hc3,ht3⟩
  have q3:=q.turn hCw hc3 ht3
  have HG:=Lib.hid (numC_wf ⟨r,false⟩)
  obtain ⟨T,hT⟩:∃T,T=rawF kd ⟨r,false⟩:=⟨_,rfl⟩
  have HR:=Lib.hid (show readD (y::r)=finD T by rw [hT,HKD.out];exact readF_eq y r)
  have HT:=Lib.hid (show T=if kd=2 then actF ⟨r,false⟩ else if kd=1 then ftableT (pRaw 1 (numC ⟨r,false⟩).1) (numC ⟨r,false⟩).2 else (pRaw kd (numC ⟨r,false⟩).1,(numC ⟨r,false⟩).2) from hT)
  unfold actF at HT
  clear hT q hc3 ht3
  generalize (numC ⟨r,false⟩).1=g at*
  generalize (numC ⟨r,false⟩).2=s1 at*
  have f3:=q3.bD.free
  have l3:W3.cell? ⟨D,1,none⟩=some (.int .i64 0):=q3.bD.cell rfl
  go_upto_region 7 with (fail)
  refine wp_forget (fun W=>FW w X C D (some ⟨bk,ok,none⟩) cap (y::r) (pRaw kd g) nilDH s1 W) (q3.put hwD hXD 1 _ rfl ?_) ?_
  ·have:=q3.own.cell1 (i:=1) q3.bD (by decide) (by decide) (.int .i64 g)
   exact ⟨this.kind,HG.out,this.table,this.fmt,this.n0,this.n1,this.d0,this.d1,this.dr,this.act⟩
  clear q3 f3 l3
  intro W4 q
  have ck:W4.cell? ⟨D,0,none⟩=some (.int .i8 kd):=q.bD.cell rfl
  obtain ⟨tb,htb⟩:∃b,b=(decide (kd=2)&& !s1.bad):=⟨_,rfl⟩
  have HTB:=Lib.hid htb
  clear htb
  go_cut [42] (fun v wx=>v= .bool tb∧wx=W4)
  case first=>
   obtain ⟨k,hk,hsk⟩:=q.cur
   have c2:W4.cell? ⟨C,2,none⟩=some (.bool s1.bad):=hk.blk.cell rfl
   by_cases hk2:kd=2
   ·subst hk2
    have e:tb= !s1.bad:=by rw [HTB.out];simp
    subst e
    clear HTB q hk
    go_wp2_with fail
    go_meet
    exact ⟨by first|rfl|simp,rfl⟩
   ·have e:tb=false:=by rw [HTB.out,decide_eq_false hk2];rfl
    subst e
    have t2:(kd==2)=false:=by simpa using hk2
    clear HTB q hk
    go_wp2_with fail
    go_meet
    exact ⟨rfl,rfl⟩
  case rest=>
  obtain ⟨rfl,rfl⟩:=hcut
  go_upto_if 42 with (fail)
  go_cut [7,8,9] (fun _ _ _ wx=>FRdC w X C D (some ⟨bk,ok,none⟩) cap (y::r) kd g s1 T wx)
  case first=>
   by_cases hk2:kd=2
   ·subst hk2
    obtain ⟨k,hk,hsk⟩:=q.cur
    have c1:wc.cell? ⟨C,1,none⟩=some (.int .i64 (k:Int)):=hk.blk.cell rfl
    have c2:wc.cell? ⟨C,2,none⟩=some (.bool s1.bad):=hk.blk.cell rfl
    cases hbd:s1.bad with
    |true=>
     rw [hbd] at c2
     have hT:T=(pRaw 2 g,s1):=by rw [HT.out,if_pos rfl,if_pos hbd]
     obtain rfl:tb=false:=by rw [HTB.out,hbd];rfl
     have fin:FRdE w X C D (some ⟨bk,ok,none⟩) cap (y::r) T wc:=⟨nilDH,by rw [hT];exact q⟩
     have FIN:=Lib.hid fin
     clear fin hT hk q
     go_wp2_with fail
     go_meet
     exact ⟨.inl ⟨rfl,FIN.out⟩,ck⟩
    |false=>
     obtain rfl:tb=true:=by rw [HTB.out,hbd];rfl
     have hCl:=hk.blk.lt
     have hkn:k≤n:=by rw [←hn];exact hk.le
     have i2:(k:Int)≤(n:Int):=by omega
     have i3:((n:Int)).toNat-k=n-k:=by omega
     rw [hbd] at c2
     have hct:=BytesAt.cutV hk.row rfl hk.capOk k hk.le
     by_cases hcq:cap=k
     ·rw [show cutA (some ⟨bk,ok,none⟩) cap k=some ⟨bk,ok,none⟩ from if_pos hcq] at hct
      subst hcq
      have i4:n-cap=0:=by omega
      have hrow:BytesAt wc (some ⟨bk,ok,none⟩) s1.b:=by rw [hsk];exact hct
      have cb:=readact_d wc (some ⟨bk,ok,none⟩) 0 0 s1.b hrow (by rw [hsk,List.length_drop,hn];try omega) (by omega)
      generalize (readA s1.b).1=pa at*
      generalize (readA s1.b).2.1=ka at*
      generalize (readA s1.b).2.2=er at*
      have HT1:=Lib.hid HT.out
      clear HT hrow
      go_wp2_with fail
      refine cb.mono ?_
      clear cb
      rintro e W5 ⟨ha,rfl,ho1,hb5⟩
      have q5:=q.old hb5
      replace ho1:=ho1.lower (B':=C+1) hCl
      clear q hk c1 c2 ck
      rw [actionVal_cells]
      go_upto_region 9 with (refine wpList_store_blk rfl 38 actT (.tmp 7) _ rfl rfl rfl (Blk.new _ _ _) rfl rfl (by rfl) ?_)
      obtain ⟨Y,hY⟩:∃Y,Y=W5.heap.size:=⟨_,rfl⟩
      rw [←hY]
      refine wp_forget (fun W=>FW w X C D (some ⟨bk,ok,none⟩) cap (y::r) (pRaw 2 g) nilDH s1 W∧Blk W Y (actionCells pa ha).toArray 38∧ActionOwn W (C+1) pa ha) ⟨q5.old (by subst hY;(try unfold Kept);repeat (first|assumption|exact Below.refl _ _|exact below_undrew (Below.refl _ _)|exact Below.mono (by assumption) (by first|(simp;done)|(simp;omega)|omega)|refine below_setRow ?_ (by first|(simp;done)|(simp;omega)|omega) _|refine Below.setCell ?_ (by first|(simp;done)|(simp;omega)|omega) _|refine Below.alloc ?_ (by first|(simp;done)|(simp;omega)|omega) _|refine below_drewN ?_ _|refine Below.drew ?_|refine below_undrew ?_|refine below_step ?_ (by assumption))),by subst hY;exact (Blk.new W5 _ _).setRow _,ho1.old (by subst hY;(try unfold Kept);repeat (first|assumption|exact Below.refl _ _|exact below_undrew (Below.refl _ _)|exact Below.mono (by assumption) (by first|(simp;done)|(simp;omega)|omega)|refine below_setRow ?_ (by first|(simp;done)|(simp;omega)|omega) _|refine Below.setCell ?_ (by first|(simp;done)|(simp;omega)|omega) _|refine Below.alloc ?_ (by first|(simp;done)|(simp;omega)|omega) _|refine below_drewN ?_ _|refine Below.drew ?_|refine below_undrew ?_|refine below_step ?_ (by assumption)))⟩ ?_
      clear q5 ho1 hY hb5
      rintro W6 ⟨q6,bY,ho1⟩
      have hbD:=q6.bD
      go_upto_region 10 with (first|refine wpList_load_blk rfl 38 actT (.tmp 7) rfl rfl bY rfl ?_|refine wpList_store_at rfl 38 actT (.tmp 55) _ rfl rfl rfl hbD rfl (Nat.le_refl 15) (by rfl) ?_)
      rw [show splice (deedCells (pRaw 2 g) nilDH).toArray 9 (actionCells pa ha).toArray=(deedCells {pRaw 2 g with act:=pa} {nilDH with act:=ha}).toArray from rfl]
      refine wp_forget (fun W=>FW w X C D (some ⟨bk,ok,none⟩) cap (y::r) {pRaw 2 g with act:=pa} {nilDH with act:=ha} s1 W) (q6.putRow hwD hXD ?_) ?_
      ·have this:=q6.own.row1 hbD (by decide) (by decide) (deedCells {pRaw 2 g with act:=pa} {nilDH with act:=ha}).toArray
       exact ⟨this.kind,this.game,this.table,this.fmt,this.n0,this.n1,this.d0,this.d1,this.dr,ho1.row1 hbD (by decide) (by decide) _⟩
      clear q6 ho1 hbD bY
      intro W7 q7
      have hT:T=({pRaw 2 g with act:=pa},⟨[],decide (er≠0)⟩):=by
       rw [HT1.out]
       simp only [if_true,hbd,if_neg Bool.false_ne_true]
      have HTT:=Lib.hid hT
      clear hT HT1
      obtain ⟨k7,hk7,hs7⟩:=q7.cur
      have d0:W7.cell? ⟨C,0,none⟩=some (.slice (some ⟨bk,ok,none⟩) (y::r).length cap):=hk7.blk.cell rfl
      have d1:W7.cell? ⟨C,1,none⟩=some (.int .i64 (k7:Int)):=hk7.blk.cell rfl
      have d2:W7.cell? ⟨C,2,none⟩=some (.bool s1.bad):=hk7.blk.cell rfl
      have f7:=hk7.blk.free
      have fin:FRdC w X C D (some ⟨bk,ok,none⟩) cap (y::r) 2 g s1 T ((W7.setCell ⟨C,2,none⟩ (.bool (er !=0))).setCell ⟨C,1,none⟩ (.int .i64 (n:Int))):=by
       have h8:=hk7.setBad (er !=0)
       have h9:=h8.setAt (y::r).length (Nat.le_refl _)
       rw [hn] at h9
       have q8:FW w X C D (some ⟨bk,ok,none⟩) cap (y::r) {pRaw 2 g with act:=pa} {nilDH with act:=ha} ⟨[],er !=0⟩ ((W7.setCell ⟨C,2,none⟩ (.bool (er !=0))).setCell ⟨C,1,none⟩ (.int .i64 (n:Int))):=
        q7.turn hCw ⟨n,h9,by dsimp only;rw [←hn,List.drop_length]⟩ (((Turn.refl (fun x=>x=C) W7).one _).one _)
       refine ⟨.inl ⟨rfl,{nilDH with act:=ha},?_⟩,q8.bD.cell rfl⟩
       rw [HTT.out]
       have e:decide (er≠0)=(er !=0):=by simp [bne];by_cases h:er=0<;>simp [h]
       dsimp only
       rw [e]
       exact q8
      have FIN:=Lib.hid fin
      clear fin q7 hk7
      go_wp2_with fail
      go_meet
      exact FIN.out
     ·rw [show cutA (some ⟨bk,ok,none⟩) cap k=some ⟨bk,ok+k,none⟩ from by unfold cutA;rw [if_neg hcq,Nat.mul_one,Option.map_some,Addr.add_mid]] at hct
      have hrow:BytesAt wc (some ⟨bk,ok+k,none⟩) s1.b:=by rw [hsk];exact hct
      have cb:=readact_d wc (some ⟨bk,ok+k,none⟩) (n-k) (cap-k) s1.b hrow (by rw [hsk,List.length_drop,hn];try omega) (by omega)
      generalize (readA s1.b).1=pa at*
      generalize (readA s1.b).2.1=ka at*
      generalize (readA s1.b).2.2=er at*
      have HT1:=Lib.hid HT.out
      clear HT hrow
      go_wp2_with fail
      refine cb.mono ?_
      clear cb
      rintro e W5 ⟨ha,rfl,ho1,hb5⟩
      have q5:=q.old hb5
      replace ho1:=ho1.lower (B':=C+1) hCl
      clear q hk c1 c2 ck
      rw [actionVal_cells]
      go_upto_region 9 with (refine wpList_store_blk rfl 38 actT (.tmp 7) _ rfl rfl rfl (Blk.new _ _ _) rfl rfl (by rfl) ?_)
      obtain ⟨Y,hY⟩:∃Y,Y=W5.heap.size:=⟨_,rfl⟩
      rw [←hY]
      refine wp_forget (fun W=>FW w X C D (some ⟨bk,ok,none⟩) cap (y::r) (pRaw 2 g) nilDH s1 W∧Blk W Y (actionCells pa ha).toArray 38∧ActionOwn W (C+1) pa ha) ⟨q5.old (by subst hY;(try unfold Kept);repeat (first|assumption|exact Below.refl _ _|exact below_undrew (Below.refl _ _)|exact Below.mono (by assumption) (by first|(simp;done)|(simp;omega)|omega)|refine below_setRow ?_ (by first|(simp;done)|(simp;omega)|omega) _|refine Below.setCell ?_ (by first|(simp;done)|(simp;omega)|omega) _|refine Below.alloc ?_ (by first|(simp;done)|(simp;omega)|omega) _|refine below_drewN ?_ _|refine Below.drew ?_|refine below_undrew ?_|refine below_step ?_ (by assumption))),by subst hY;exact (Blk.new W5 _ _).setRow _,ho1.old (by subst hY;(try unfold Kept);repeat (first|assumption|exact Below.refl _ _|exact below_undrew (Below.refl _ _)|exact Below.mono (by assumption) (by first|(simp;done)|(simp;omega)|omega)|refine below_setRow ?_ (by first|(simp;done)|(simp;omega)|omega) _|refine Below.setCell ?_ (by first|(simp;done)|(simp;omega)|omega) _|refine Below.alloc ?_ (by first|(simp;done)|(simp;omega)|omega) _|refine below_drewN ?_ _|refine Below.drew ?_|refine below_undrew ?_|refine below_step ?_ (by assumption)))⟩ ?_
      clear q5 ho1 hY hb5
      rintro W6 ⟨q6,bY,ho1⟩
      have hbD:=q6.bD
      go_upto_region 10 with (first|refine wpList_load_blk rfl 38 actT (.tmp 7) rfl rfl bY rfl ?_|refine wpList_store_at rfl 38 actT (.tmp 55) _ rfl rfl rfl hbD rfl (Nat.le_refl 15) (by rfl) ?_)
      rw [show splice (deedCells (pRaw 2 g) nilDH).toArray 9 (actionCells pa ha).toArray=(deedCells {pRaw 2 g with act:=pa} {nilDH with act:=ha}).toArray from rfl]
      refine wp_forget (fun W=>FW w X C D (some ⟨bk,ok,none⟩) cap (y::r) {pRaw 2 g with act:=pa} {nilDH with act:=ha} s1 W) (q6.putRow hwD hXD ?_) ?_
      ·have this:=q6.own.row1 hbD (by decide) (by decide) (deedCells {pRaw 2 g with act:=pa} {nilDH with act:=ha}).toArray
       exact ⟨this.kind,this.game,this.table,this.fmt,this.n0,this.n1,this.d0,this.d1,this.dr,ho1.row1 hbD (by decide) (by decide) _⟩
      clear q6 ho1 hbD bY
      intro W7 q7
      have hT:T=({pRaw 2 g with act:=pa},⟨[],decide (er≠0)⟩):=by
       rw [HT1.out]
       simp only [if_true,hbd,if_neg Bool.false_ne_true]
      have HTT:=Lib.hid hT
      clear hT HT1
      obtain ⟨k7,hk7,hs7⟩:=q7.cur
      have d0:W7.cell? ⟨C,0,none⟩=some (.slice (some ⟨bk,ok,none⟩) (y::r).length cap):=hk7.blk.cell rfl
      have d1:W7.cell? ⟨C,1,none⟩=some (.int .i64 (k7:Int)):=hk7.blk.cell rfl
      have d2:W7.cell? ⟨C,2,none⟩=some (.bool s1.bad):=hk7.blk.cell rfl
      have f7:=hk7.blk.free
      have fin:FRdC w X C D (some ⟨bk,ok,none⟩) cap (y::r) 2 g s1 T ((W7.setCell ⟨C,2,none⟩ (.bool (er !=0))).setCell ⟨C,1,none⟩ (.int .i64 (n:Int))):=by
       have h8:=hk7.setBad (er !=0)
       have h9:=h8.setAt (y::r).length (Nat.le_refl _)
       rw [hn] at h9
       have q8:FW w X C D (some ⟨bk,ok,none⟩) cap (y::r) {pRaw 2 g with act:=pa} {nilDH with act:=ha} ⟨[],er !=0⟩ ((W7.setCell ⟨C,2,none⟩ (.bool (er !=0))).setCell ⟨C,1,none⟩ (.int .i64 (n:Int))):=
        q7.turn hCw ⟨n,h9,by dsimp only;rw [←hn,List.drop_length]⟩ (((Turn.refl (fun x=>x=C) W7).one _).one _)
       refine ⟨.inl ⟨rfl,{nilDH with act:=ha},?_⟩,q8.bD.cell rfl⟩
       rw [HTT.out]
       have e:decide (er≠0)=(er !=0):=by simp [bne];by_cases h:er=0<;>simp [h]
       dsimp only
       rw [e]
       exact q8
      have FIN:=Lib.hid fin
      clear fin q7 hk7
      go_wp2_with fail
      go_meet
      exact FIN.out
   ·obtain rfl:tb=false:=by rw [HTB.out,decide_eq_false hk2];rfl
    have t2:(kd==2)=false:=by simpa using hk2
    go_wp2_with fail
    go_meet
    exact ⟨.inr ⟨hk2,q⟩,ck⟩
  case rest=>
   clear q ck
   obtain ⟨hcut,ck⟩:=hcut
   go_upto_if 68 with (fail)
   go_cut [10,11,12,13,14,15,16] (fun _ _ _ _ _ _ _ wx=>FRdE w X C D (some ⟨bk,ok,none⟩) cap (y::r) T wx)
   case first=>
    rcases hcut with ⟨rfl,hE⟩|⟨hk2,q⟩
    ·go_wp2_with fail
     go_meet
     exact hE
    by_cases hk1:kd=1
    ·subst hk1
     have hT:=HT.out
     rw [if_neg (by decide),if_pos rfl] at hT
     unfold ftableT at hT
     have cb:=fnumber_any wc w.heap.size C _ cap _ _ q.cur q.below.size
     go_wp2_with fail
     refine cb.mono ?_
     clear cb
     rintro e W1 ⟨rfl,hc1,ht1⟩
     have q1:=q.turn hCw hc1 ht1
     have f1:=q1.bD.free
     have l1:W1.cell? ⟨D,2,none⟩=some (.int .i64 0):=q1.bD.cell rfl
     have hwf:=numC_wf s1
     generalize (numC s1).1=t at*
     generalize (numC s1).2=s2 at*
     have HT1:=Lib.hid hT
     clear hT HT q hc1 ht1 ck
     go_upto_region 15 with fail
     refine wp_forget (fun W=>FW w X C D (some ⟨bk,ok,none⟩) cap (y::r) {pRaw 1 g with table:=t} nilDH s2 W) (q1.put hwD hXD 2 _ rfl ?_) ?_
     ·have:=q1.own.cell1 (i:=2) q1.bD (by decide) (by decide) (.int .i64 t)
      exact ⟨this.kind,this.game,hwf,this.fmt,this.n0,this.n1,this.d0,this.d1,this.dr,this.act⟩
     clear q1 f1 l1
     intro W2 q
     have hz:=textF_z s2 (Nat.le_trans (numC_len s2) q.cur.max)
     have cb:=ftext_any W2 w.heap.size C _ cap _ _ q.cur q.below.size
     go_wp2_with fail
     refine cb.mono ?_
     clear cb
     rintro e W1 ⟨rfl,hc1,ht1⟩
     have q1:=q.turn hCw hc1 ht1
     have f1:=q1.bD.free
     have l1:W1.cell? ⟨D,3,none⟩=some (.string emN):=q1.bD.cell rfl
     have hT:=HT1.out
     unfold ffmtT at hT
     generalize strOf (textF s2).1=f at*
     generalize (textF s2).2=s3 at*
     have HT2:=Lib.hid hT
     clear hT HT1 q hc1 ht1
     go_upto_region 17 with fail
     refine wp_forget (fun W=>FRdN w X C D (some ⟨bk,ok,none⟩) cap (y::r) T 2 (.int .i64 0) W) ⟨0,_,nilDH,s3,rfl,rfl,q1.put hwD hXD 3 _ rfl ?_,Lib.hid HT2.out⟩ ?_
     ·have:=q1.own.cell1 (i:=3) q1.bD (by decide) (by decide) (.string f)
      exact ⟨this.kind,this.game,this.table,hz,this.n0,this.n1,this.d0,this.d1,this.dr,this.act⟩
     clear q1 f1 l1 HT2 hz hwf
     intro W3 hst
     go_wp2_with fail
     go_loopg [12,13] 2 (fun f i _ wr=>FRdN w X C D (some ⟨bk,ok,none⟩) cap (y::r) T f i wr)
     case atStart=>exact hst
     case round=>
      clear hst
      obtain ⟨k,p,h,s,hf,rfl,q,hR⟩:=hrel
      have HF:=Lib.hid hf
      clear hf
      by_cases hk:k<2
      ·have h3:k=0∨k=1:=by omega
       rcases h3 with rfl|rfl
       ·have hR2:Hid (T=fnames2 p s):=by
         have e:gk=2:=by have:=HF.out;omega
         have h:=hR.out
         rw [e] at h
         exact Lib.hid h
        clear hR
        have hz:=textF_z s (Nat.le_trans (numC_len s) q.cur.max)
        have cb:=ftext_any wr w.heap.size C _ cap _ s q.cur q.below.size
        go_wp2_with fail
        refine cb.mono ?_
        clear cb
        rintro e W1 ⟨rfl,hc1,ht1⟩
        have q1:=q.turn hCw hc1 ht1
        have f1:=q1.bD.free
        have l1:W1.cell? ⟨D,4,none⟩=some (.string p.n0):=q1.bD.cell rfl
        have hT:=hR2.out
        unfold fnames2 at hT
        generalize strOf (textF s).1=x at*
        generalize (textF s).2=s' at*
        have HT2:=Lib.hid hT
        clear hT hR2 q hc1 ht1
        go_wp2_with fail
        go_roundg 1
        case measure=>have:=HF.out;omega
        case rel=>
         refine ⟨0+1,{p with n0:=x},h,s',by omega,by go_num,q1.put hwD hXD 4 _ rfl ?_,Lib.hid HT2.out⟩
         have:=q1.own.cell1 (i:=4) q1.bD (by decide) (by decide) (.string x)
         exact ⟨this.kind,this.game,this.table,this.fmt,by first|exact hz|exact this.n0,by first|exact hz|exact this.n1,this.d0,this.d1,this.dr,this.act⟩
       ·have hR2:Hid (T=fnames1 p s):=by
         have e:gk=1:=by have:=HF.out;omega
         have h:=hR.out
         rw [e] at h
         exact Lib.hid h
        clear hR
        have hz:=textF_z s (Nat.le_trans (numC_len s) q.cur.max)
        have cb:=ftext_any wr w.heap.size C _ cap _ s q.cur q.below.size
        go_wp2_with fail
        refine cb.mono ?_
        clear cb
        rintro e W1 ⟨rfl,hc1,ht1⟩
        have q1:=q.turn hCw hc1 ht1
        have f1:=q1.bD.free
        have l1:W1.cell? ⟨D,5,none⟩=some (.string p.n1):=q1.bD.cell rfl
        have hT:=hR2.out
        unfold fnames1 at hT
        generalize strOf (textF s).1=x at*
        generalize (textF s).2=s' at*
        have HT2:=Lib.hid hT
        clear hT hR2 q hc1 ht1
        go_wp2_with fail
        go_roundg 0
        case measure=>have:=HF.out;omega
        case rel=>
         refine ⟨1+1,{p with n1:=x},h,s',by omega,by go_num,q1.put hwD hXD 5 _ rfl ?_,Lib.hid HT2.out⟩
         have:=q1.own.cell1 (i:=5) q1.bD (by decide) (by decide) (.string x)
         exact ⟨this.kind,this.game,this.table,this.fmt,by first|exact hz|exact this.n0,by first|exact hz|exact this.n1,this.d0,this.d1,this.dr,this.act⟩
      ·obtain rfl:k=2:=by have:=HF.out;omega
       have hR3:Hid (T=fdecksT 2 p s):=by
        have e:gk=0:=by have:=HF.out;omega
        have h:=hR.out
        rw [e] at h
        exact Lib.hid h
       clear hR
       have hst:FRdK w X C D (some ⟨bk,ok,none⟩) cap (y::r) T 2 (.int .i64 0) wr:=⟨0,p,h,s,rfl,rfl,q,hR3⟩
       clear q hR3
       go_wp2_with fail
       go_loopg [14,15] 2 (fun f i _ wr=>FRdK w X C D (some ⟨bk,ok,none⟩) cap (y::r) T f i wr)
       case atStart=>exact hst
       case round=>
        clear hst
        obtain ⟨k,p,h,s,hf,rfl,q,hR⟩:=hrel
        have HF:=Lib.hid hf
        clear hf
        by_cases hk:k<2
        ·have h3:k=0∨k=1:=by omega
         rcases h3 with rfl|rfl
         ·have hR2:Hid (T=fdecks2 p s):=by
           have e:gk=2:=by have:=HF.out;omega
           have h:=hR.out
           rw [e] at h
           exact Lib.hid h
          clear hR
          have cb:=flist_any wr w.heap.size C _ cap _ s q.cur q.below.size
          have hCl:=q.cur.lt
          go_wp2_with fail
          refine cb.mono ?_
          clear cb
          rintro e W1 ⟨⟨xa,xn,xc⟩,rfl,ho1,hc1,ht1⟩
          have q1:=q.turn hCw hc1 ht1
          have f1:=q1.bD.free
          have l1:W1.cell? ⟨D,6,none⟩=some (.slice h.d0.a h.d0.n h.d0.c):=q1.bD.cell rfl
          have hT:=hR2.out
          unfold fdecks2 at hT
          replace ho1:=(ho1.lower (B':=C+1) hCl).cell1 (i:=6) q1.bD (by decide) (.slice xa xn xc)
          generalize (listF s).1=x at*
          generalize (listF s).2=s' at*
          have HT2:=Lib.hid hT
          clear hT hR2 q hc1 ht1 hCl
          go_wp2_with fail
          go_roundg 1
          case measure=>have:=HF.out;omega
          case rel=>
           refine ⟨0+1,{p with d0:=x},{h with d0:=⟨xa,xn,xc⟩},s',by omega,by go_num,q1.put hwD hXD 6 _ rfl ?_,Lib.hid HT2.out⟩
           have:=q1.own.cell1 (i:=6) q1.bD (by decide) (by decide) (.slice xa xn xc)
           exact ⟨this.kind,this.game,this.table,this.fmt,this.n0,this.n1,by first|exact ho1|exact this.d0,by first|exact ho1|exact this.d1,this.dr,this.act⟩
         ·have hR2:Hid (T=fdecks1 p s):=by
           have e:gk=1:=by have:=HF.out;omega
           have h:=hR.out
           rw [e] at h
           exact Lib.hid h
          clear hR
          have cb:=flist_any wr w.heap.size C _ cap _ s q.cur q.below.size
          have hCl:=q.cur.lt
          go_wp2_with fail
          refine cb.mono ?_
          clear cb
          rintro e W1 ⟨⟨xa,xn,xc⟩,rfl,ho1,hc1,ht1⟩
          have q1:=q.turn hCw hc1 ht1
          have f1:=q1.bD.free
          have l1:W1.cell? ⟨D,7,none⟩=some (.slice h.d1.a h.d1.n h.d1.c):=q1.bD.cell rfl
          have hT:=hR2.out
          unfold fdecks1 at hT
          replace ho1:=(ho1.lower (B':=C+1) hCl).cell1 (i:=7) q1.bD (by decide) (.slice xa xn xc)
          generalize (listF s).1=x at*
          generalize (listF s).2=s' at*
          have HT2:=Lib.hid hT
          clear hT hR2 q hc1 ht1 hCl
          go_wp2_with fail
          go_roundg 0
          case measure=>have:=HF.out;omega
          case rel=>
           refine ⟨1+1,{p with d1:=x},{h with d1:=⟨xa,xn,xc⟩},s',by omega,by go_num,q1.put hwD hXD 7 _ rfl ?_,Lib.hid HT2.out⟩
           have:=q1.own.cell1 (i:=7) q1.bD (by decide) (by decide) (.slice xa xn xc)
           exact ⟨this.kind,this.game,this.table,this.fmt,this.n0,this.n1,by first|exact ho1|exact this.d0,by first|exact ho1|exact this.d1,this.dr,this.act⟩
        ·obtain rfl:k=2:=by have:=HF.out;omega
         have hR2:Hid (T=fdecks0 p s):=by
          have e:gk=0:=by have:=HF.out;omega
          have h:=hR.out
          rw [e] at h
          exact Lib.hid h
         clear hR
         have cb:=flist_any wr w.heap.size C _ cap _ s q.cur q.below.size
         have hCl:=q.cur.lt
         go_wp2_with fail
         refine cb.mono ?_
         clear cb
         rintro e W1 ⟨⟨xa,xn,xc⟩,rfl,ho1,hc1,ht1⟩
         have q1:=q.turn hCw hc1 ht1
         have f1:=q1.bD.free
         have l1:W1.cell? ⟨D,8,none⟩=some (.slice h.dr.a h.dr.n h.dr.c):=q1.bD.cell rfl
         have hT:=hR2.out
         unfold fdecks0 at hT
         replace ho1:=(ho1.lower (B':=C+1) hCl).cell1 (i:=8) q1.bD (by decide) (.slice xa xn xc)
         generalize (listF s).1=x at*
         generalize (listF s).2=s' at*
         have HT2:=Lib.hid hT
         clear hT hR2 q hc1 ht1 hCl
         go_wp2_with fail
         go_meet
         rw [HT2.out]
         refine ⟨{h with dr:=⟨xa,xn,xc⟩},q1.put hwD hXD 8 _ rfl ?_⟩
         have:=q1.own.cell1 (i:=8) q1.bD (by decide) (by decide) (.slice xa xn xc)
         exact ⟨this.kind,this.game,this.table,this.fmt,this.n0,this.n1,this.d0,this.d1,ho1,this.act⟩
    ·have hT:=HT.out
     rw [if_neg hk2,if_neg hk1] at hT
     have fin:FRdE w X C D (some ⟨bk,ok,none⟩) cap (y::r) T wc:=by
      rw [hT]
      exact ⟨nilDH,q⟩
     have FIN:=Lib.hid fin
     have t1:(kd==1)=false:=by simpa using hk1
     clear q hT fin
     go_wp2_with fail
     go_meet
     exact FIN.out
   case rest=>
    obtain ⟨p,s⟩:=T
    obtain ⟨h,q⟩:=hcut
    dsimp only at q
    clear HT HKD ck hi0 d0
    obtain ⟨k,hk,hsk⟩:=q.cur
    have l0:wc.cell? ⟨C,2,none⟩=some (.bool s.bad):=hk.blk.cell rfl
    have l1:wc.cell? ⟨C,1,none⟩=some (.int .i64 (k:Int)):=hk.blk.cell rfl
    have hl:s.b.length=n-k:=by rw [hsk,List.length_drop,hn]
    have hkn:k≤n:=by rw [←hn];exact hk.le
    have bX:=q.bX
    have bD:=q.bD
    have hbw:=q.below
    have hown:=q.own
    clear hk q
    have bad:(s.bad=true∨k<n∨mayD p=false)→readD (y::r)=(zeroD,2):=fun e=>by
     rw [HR.out]
     unfold finD
     dsimp only
     rw [if_pos (by rw [hl];rcases e with e|e|e;exact .inl e;exact .inr (.inl (by omega));exact .inr (.inr e))]
    have good:¬(s.bad=true∨k<n∨mayD p=false)→readD (y::r)=(p,0):=fun e=>by
     rw [HR.out]
     unfold finD
     dsimp only
     rw [if_neg (by rw [hl];rintro (h|h|h);exact e (.inl h);exact e (.inr (.inl (by omega)));exact e (.inr (.inr h)))]
    have HB:=Lib.hid bad
    have HGd:=Lib.hid good
    have HS:=Lib.hid hsk
    clear bad good hsk hl
    cases hs:s.bad with
    |true=>
     rw [hs] at l0
     have hr:=HB.out (.inl hs)
     go_wp2_with (refine wpList_store_blk rfl 40 deedT (.tmp 2) _ rfl rfl rfl bX rfl rfl (by rfl) ?_)
     refine post_blk_tmp rfl deedT rfl (bX.setRow _) rfl rfl rfl ?_
     unfold VReadP
     rw [hr]
     exact ⟨nilDH,rfl,zeroD_own _ _,below_setRow hbw hXw _⟩
    |false=>
     rw [hs] at l0
     by_cases hn0:k<n
     ·have hr:=HB.out (.inr (.inl hn0))
      have t1:((k:Int) !=(n:Int))=true:=by simp;omega
      go_wp2_with (refine wpList_store_blk rfl 40 deedT (.tmp 2) _ rfl rfl rfl bX rfl rfl (by rfl) ?_)
      refine post_blk_tmp rfl deedT rfl (bX.setRow _) rfl rfl rfl ?_
      unfold VReadP
      rw [hr]
      exact ⟨nilDH,rfl,zeroD_own _ _,below_setRow hbw hXw _⟩
     ·have t1:((k:Int) !=(n:Int))=false:=by simp;omega
      have hN0:=Lib.hid hn0
      clear hn0 hkn
      have cb:=rmay_any p h wc ((hown.lower (Nat.le_trans hCw (Nat.le_succ C))).at)
      rw [deedVal_cells] at cb
      go_wp2_with (refine wpList_load_blkw (by rfl) 40 deedT (.tmp 5) rfl rfl bD rfl ?_)
      refine cb.mono ?_
      clear cb
      rintro e W3 ⟨rfl,hb3⟩
      have bX3:=bX.old hb3
      have bD3:=bD.old hb3
      have hbw3:=below_step hbw hb3
      cases hmay:mayD p with
      |false=>
       have hr:=HB.out (.inr (.inr hmay))
       go_wp2_with (refine wpList_store_blk rfl 40 deedT (.tmp 2) _ rfl rfl rfl bX3 rfl rfl (by rfl) ?_)
       refine post_blk_tmp rfl deedT rfl (bX3.setRow _) rfl rfl rfl ?_
       unfold VReadP
       rw [hr]
       exact ⟨nilDH,rfl,zeroD_own _ _,below_setRow hbw3 hXw _⟩
      |true=>
       have hr:=HGd.out (by rw [hs,hmay];rintro (h|h|h);cases h;exact hN0.out h;cases h)
       go_wp2_with (first|refine wpList_load_blk rfl 40 deedT (.tmp 5) rfl rfl bD3 rfl ?_|refine wpList_store_blk rfl 40 deedT (.tmp 2) _ rfl rfl rfl bX3 rfl rfl (by rfl) ?_)
       refine post_blk_tmp rfl deedT rfl (bX3.setRow _) rfl rfl rfl ?_
       unfold VReadP
       rw [hr]
       exact ⟨h,rfl,((hown.old hb3).row1 bX3 (by decide) (by decide) _).lower (Nat.le_trans hCw (Nat.le_succ C)),below_setRow hbw3 hXw _⟩
end
end Go.Proofs.YtioigihakjlopaaGreat
