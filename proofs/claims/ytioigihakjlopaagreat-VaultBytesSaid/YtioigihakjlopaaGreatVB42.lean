/- Texts put together and cut to what is used: VRMay, ImRB, ImRB2, ImRB3. -/
import Derived.Test.YtioigihakjlopaaGreatVB39
namespace Go.Proofs.YtioigihakjlopaaGreat
set_option linter.unusedVariables false
set_option linter.unusedSimpArgs false
section
open Go.RowKit
set_option maxRecDepth 20000
theorem rnamed_ok (s:ByteArray) (w:World) (hz:strZ s):Calls Tryz.prog 94 #[.string s] w fun e w'=>e= .returned (.bool (okName s))∧Below w.heap.size w w':=by
 have hs:s.size≤140737488351232:=hz
 by_cases h1:1≤s.size
 ·have t0:decide ((s.size:Int)≥1)=true:=by simp;omega
  have t1:decide ((1:Int)≤(s.size:Int))=true:=by simp;omega
  have hk:okName s=decide ((s.size:Int)≤40):=by
   unfold okName
   rw [decide_eq_true (show s.size≠0 by omega),Bool.true_and,decide_eq_decide]
   omega
  rw [hk]
  have t2:decide ((s.size:Int)≤40)=decide ((s.size:Int)≤40):=rfl
  go_enter Tryz.func94,Tryz.ntmps94
  go_wp2_with fail
  go_ret
  exact ⟨rfl,Below.refl _ _⟩
 ·have t0:decide ((s.size:Int)≥1)=false:=by simp;omega
  have t1:decide ((1:Int)≤(s.size:Int))=false:=by simp;omega
  have hk:okName s=false:=by
   unfold okName
   rw [decide_eq_false (show ¬s.size≠0 by omega),Bool.false_and]
  rw [hk]
  go_enter Tryz.func94,Tryz.ntmps94
  go_wp2_with fail
  go_ret
  exact ⟨rfl,Below.refl _ _⟩
def noActD (p:ActionP):Bool:=decide (p=zeroA)
set_option maxHeartbeats 2000000 in
theorem rnoact_any (p:ActionP) (h:ActionH) (w:World) (hp:ActionAt w p h):Calls Tryz.prog 95 #[actionVal p h] w fun e w'=>e= .returned (.bool (noActD p))∧Below w.heap.size w w':=by
 obtain ⟨op,side,place,target,ids,pairs⟩:=p
 obtain ⟨⟨ia,inn,ic⟩,⟨pa,pn,pc⟩⟩:=h
 have l1:ids.length=inn:=hp.ids.2.1
 have l2:pairs.length=pn:=hp.pairs.2.1
 clear hp
 obtain ⟨R,hR⟩:∃R,R=noActD ⟨op,side,place,target,ids,pairs⟩:=⟨_,rfl⟩
 rw [←hR]
 have e0:∃c,(op==0)=c∧(c=false→R=false):=⟨_,rfl,fun h=>by rw [hR];refine decide_eq_false fun e=> ?_;cases e;simp at h⟩
 have e1:∃c,(side==0)=c∧(c=false→R=false):=⟨_,rfl,fun h=>by rw [hR];refine decide_eq_false fun e=> ?_;cases e;simp at h⟩
 have e2:∃c,(place==0)=c∧(c=false→R=false):=⟨_,rfl,fun h=>by rw [hR];refine decide_eq_false fun e=> ?_;cases e;simp at h⟩
 have e3:∃c,(target==0)=c∧(c=false→R=false):=⟨_,rfl,fun h=>by rw [hR];refine decide_eq_false fun e=> ?_;cases e;simp at h⟩
 have e4:∃c,((inn:Int)==0)=c∧(c=false→R=false):=⟨_,rfl,fun h=>by rw [hR];refine decide_eq_false fun e=> ?_;cases e;subst l1;simp [zeroA] at h⟩
 have e5:∃c,((pn:Int)==0)=c∧(c=false→R=false):=⟨_,rfl,fun h=>by rw [hR];refine decide_eq_false fun e=> ?_;cases e;subst l2;simp [zeroA] at h⟩
 have e6:op=0→side=0→place=0→target=0→inn=0→pn=0→R=true:=fun h0 h1 h2 h3 h4 h5=>by
  rw [hR]
  refine decide_eq_true ?_
  subst h0 h1 h2 h3
  rw [List.eq_nil_of_length_eq_zero (l1.trans h4),List.eq_nil_of_length_eq_zero (l2.trans h5)]
  rfl
 clear hR
 obtain ⟨c0,f0,n0⟩:=e0
 obtain ⟨c1,f1,n1⟩:=e1
 obtain ⟨c2,f2,n2⟩:=e2
 obtain ⟨c3,f3,n3⟩:=e3
 obtain ⟨c4,f4,n4⟩:=e4
 obtain ⟨c5,f5,n5⟩:=e5
 unfold actionVal
 dsimp only
 go_enter Tryz.func95,Tryz.ntmps95
 go_wp2_with fail
 any_goals first|(have q:=n0 (Bool.eq_false_iff.2 (by assumption));go_ret;exact ⟨by rw [q];rfl,by (try unfold Kept);repeat (first|assumption|exact Below.refl _ _|exact below_undrew (Below.refl _ _)|exact Below.mono (by assumption) (by first|(simp;done)|(simp;omega)|omega)|refine below_setRow ?_ (by first|(simp;done)|(simp;omega)|omega) _|refine Below.setCell ?_ (by first|(simp;done)|(simp;omega)|omega) _|refine Below.alloc ?_ (by first|(simp;done)|(simp;omega)|omega) _|refine below_drewN ?_ _|refine Below.drew ?_|refine below_undrew ?_|refine below_step ?_ (by assumption))⟩)|(have q:=n1 (Bool.eq_false_iff.2 (by assumption));go_ret;exact ⟨by rw [q];rfl,by (try unfold Kept);repeat (first|assumption|exact Below.refl _ _|exact below_undrew (Below.refl _ _)|exact Below.mono (by assumption) (by first|(simp;done)|(simp;omega)|omega)|refine below_setRow ?_ (by first|(simp;done)|(simp;omega)|omega) _|refine Below.setCell ?_ (by first|(simp;done)|(simp;omega)|omega) _|refine Below.alloc ?_ (by first|(simp;done)|(simp;omega)|omega) _|refine below_drewN ?_ _|refine Below.drew ?_|refine below_undrew ?_|refine below_step ?_ (by assumption))⟩)|(have q:=n2 (Bool.eq_false_iff.2 (by assumption));go_ret;exact ⟨by rw [q];rfl,by (try unfold Kept);repeat (first|assumption|exact Below.refl _ _|exact below_undrew (Below.refl _ _)|exact Below.mono (by assumption) (by first|(simp;done)|(simp;omega)|omega)|refine below_setRow ?_ (by first|(simp;done)|(simp;omega)|omega) _|refine Below.setCell ?_ (by first|(simp;done)|(simp;omega)|omega) _|refine Below.alloc ?_ (by first|(simp;done)|(simp;omega)|omega) _|refine below_drewN ?_ _|refine Below.drew ?_|refine below_undrew ?_|refine below_step ?_ (by assumption))⟩)|(have q:=n3 (Bool.eq_false_iff.2 (by assumption));go_ret;exact ⟨by rw [q];rfl,by (try unfold Kept);repeat (first|assumption|exact Below.refl _ _|exact below_undrew (Below.refl _ _)|exact Below.mono (by assumption) (by first|(simp;done)|(simp;omega)|omega)|refine below_setRow ?_ (by first|(simp;done)|(simp;omega)|omega) _|refine Below.setCell ?_ (by first|(simp;done)|(simp;omega)|omega) _|refine Below.alloc ?_ (by first|(simp;done)|(simp;omega)|omega) _|refine below_drewN ?_ _|refine Below.drew ?_|refine below_undrew ?_|refine below_step ?_ (by assumption))⟩)|(have q:=n4 (Bool.eq_false_iff.2 (by assumption));go_ret;exact ⟨by rw [q];rfl,by (try unfold Kept);repeat (first|assumption|exact Below.refl _ _|exact below_undrew (Below.refl _ _)|exact Below.mono (by assumption) (by first|(simp;done)|(simp;omega)|omega)|refine below_setRow ?_ (by first|(simp;done)|(simp;omega)|omega) _|refine Below.setCell ?_ (by first|(simp;done)|(simp;omega)|omega) _|refine Below.alloc ?_ (by first|(simp;done)|(simp;omega)|omega) _|refine below_drewN ?_ _|refine Below.drew ?_|refine below_undrew ?_|refine below_step ?_ (by assumption))⟩)|skip
 have k0:op=0:=eq_of_beq (f0.trans (by assumption))
 have k1:side=0:=eq_of_beq (f1.trans (by assumption))
 have k2:place=0:=eq_of_beq (f2.trans (by assumption))
 have k3:target=0:=eq_of_beq (f3.trans (by assumption))
 have k4:inn=0:=by have:=f4.trans (by assumption:c4=true);simpa using this
 have hR:R=c5:=by
  cases c5 with
  |true=>exact e6 k0 k1 k2 k3 k4 (by simpa using f5)
  |false=>exact n5 rfl
 go_ret
 exact ⟨by rw [hR];rfl,by (try unfold Kept);repeat (first|assumption|exact Below.refl _ _|exact below_undrew (Below.refl _ _)|exact Below.mono (by assumption) (by first|(simp;done)|(simp;omega)|omega)|refine below_setRow ?_ (by first|(simp;done)|(simp;omega)|omega) _|refine Below.setCell ?_ (by first|(simp;done)|(simp;omega)|omega) _|refine Below.alloc ?_ (by first|(simp;done)|(simp;omega)|omega) _|refine below_drewN ?_ _|refine Below.drew ?_|refine below_undrew ?_|refine below_step ?_ (by assumption))⟩
theorem noAct_eq (a:ActionP):noActD a=noAct a:=by
 obtain ⟨op,side,place,target,ids,pairs⟩:=a
 unfold noActD noAct zeroA
 rw [Bool.eq_iff_iff]
 simp only [Bool.and_eq_true,decide_eq_true_iff]
 constructor
 ·intro e;cases e;exact ⟨rfl,rfl,rfl,rfl,rfl⟩
 ·rintro ⟨rfl,rfl,rfl,rfl,h⟩
  rw [List.eq_nil_of_length_eq_zero (show ids.length=0 by omega),List.eq_nil_of_length_eq_zero (show pairs.length=0 by omega)]
theorem mayD_neg {p:DeedP} (h:¬(0≤p.game∧0≤p.table)):mayD p=false:=by
 have h1:mays p 0=false:=by
  show (decide (0≤p.game)&&decide (0≤p.table))=false
  by_cases h0:0≤p.game
  ·rw [decide_eq_false (show ¬0≤p.table from fun e=>h ⟨h0,e⟩),Bool.and_false]
  ·rw [decide_eq_false h0,Bool.false_and]
 unfold mayD
 rw [h1];rfl
theorem mayD_one {p:DeedP} (h:0≤p.game∧0≤p.table) (hk:p.kind=1):mayD p=may2 p:=by
 have h1:mays p 0=true:=by
  show (decide (0≤p.game)&&decide (0≤p.table))=true
  rw [decide_eq_true h.1,decide_eq_true h.2];rfl
 have h2:mays p 1=may2 p:=by show (if p.kind=1 then may2 p else true)=_;rw [if_pos hk]
 have h3:mays p 2=true:=by show (if p.kind=1 then true else may3 p)=_;rw [if_pos hk]
 unfold mayD
 rw [h1,h2,h3,Bool.true_and,Bool.and_true]
theorem mayD_two {p:DeedP} (h:0≤p.game∧0≤p.table) (hk:¬p.kind=1):mayD p=may3 p:=by
 have h1:mays p 0=true:=by
  show (decide (0≤p.game)&&decide (0≤p.table))=true
  rw [decide_eq_true h.1,decide_eq_true h.2];rfl
 have h2:mays p 1=true:=by show (if p.kind=1 then may2 p else true)=_;rw [if_neg hk]
 have h3:mays p 2=may3 p:=by show (if p.kind=1 then true else may3 p)=_;rw [if_neg hk]
 unfold mayD
 rw [h1,h2,h3,Bool.true_and,Bool.true_and]
theorem may2_eq {p:DeedP} {h:DeedH} {w:World} (hd:DeedAt w p h):may2 p=(decide ((p.fmt.size:Int)≤40)&&(okName p.n0&&(okName p.n1&&(decide ((h.d0.n:Int)≤60)&&(decide ((h.d1.n:Int)≤60)&&(decide ((h.dr.n:Int)≤256)&&noActD p.act)))))):=by
 have l0:=hd.d0.2.1
 have l1:=hd.d1.2.1
 have l2:=hd.dr.2.1
 rw [noAct_eq]
 unfold may2
 rw [l0,l1,l2]
 have e:∀a b:Nat,decide (a≤b)=decide ((a:Int)≤(b:Int)):=fun a b=>by rw [decide_eq_decide];omega
 rw [e,e,e,e]
 rfl
theorem may3_eq {p:DeedP} {h:DeedH} {w:World} (hd:DeedAt w p h):may3 p=((p.kind==2)&&((p.fmt.toList==([]:List UInt8))&&((p.n0.toList==([]:List UInt8))&&((p.n1.toList==([]:List UInt8))&&(((h.d0.n:Int)==0)&&(((h.d1.n:Int)==0)&&(((h.dr.n:Int)==0)&&(p.table==0)))))))):=by
 have l0:=hd.d0.2.1
 have l1:=hd.d1.2.1
 have l2:=hd.dr.2.1
 unfold may3
 rw [nil_beq,nil_beq,nil_beq,l0,l1,l2,Bool.eq_iff_iff]
 simp only [Bool.and_eq_true,decide_eq_true_iff,beq_iff_eq]
 constructor
 ·rintro ⟨a,b,c,⟨d,e⟩,f⟩
  exact ⟨a,c,d,e,by omega,by omega,by omega,b⟩
 ·rintro ⟨a,c,d,e,f,g,i,b⟩
  exact ⟨a,b,c,⟨d,e⟩,by omega⟩
set_option maxHeartbeats 4000000 in
theorem rmay_any (p:DeedP) (h:DeedH) (w:World) (hd:DeedAt w p h):Calls Tryz.prog 33 #[deedVal p h] w fun e w'=>e= .returned (.bool (mayD p))∧Below w.heap.size w w':=by
 have hz0:=hd.n0
 have hz1:=hd.n1
 have e2:=may2_eq hd
 have e3:=may3_eq hd
 have ha:=hd.act
 rw [deedVal_cells]
 obtain ⟨R,hR⟩:∃R,R=mayD p:=⟨_,rfl⟩
 rw [←hR]
 have HR:=Lib.hid hR
 clear hR hd
 go_enter Tryz.func33,Tryz.ntmps33
 go_upto_region 1 with (fail)
 obtain ⟨X,hX⟩:∃X,X=w.heap.size:=⟨_,rfl⟩
 rw [←hX]
 refine wp_forget (fun W=>Blk W X (deedCells p h).toArray 40∧Below w.heap.size w W) ⟨by subst hX;exact Blk.new w _ _,by subst hX;(try unfold Kept);repeat (first|assumption|exact Below.refl _ _|exact below_undrew (Below.refl _ _)|exact Below.mono (by assumption) (by first|(simp;done)|(simp;omega)|omega)|refine below_setRow ?_ (by first|(simp;done)|(simp;omega)|omega) _|refine Below.setCell ?_ (by first|(simp;done)|(simp;omega)|omega) _|refine Below.alloc ?_ (by first|(simp;done)|(simp;omega)|omega) _|refine below_drewN ?_ _|refine Below.drew ?_|refine below_undrew ?_|refine below_step ?_ (by assumption))⟩ ?_
 rintro W1 ⟨bX,hbw⟩
 clear hX
 have A:=bX.rule
 have ca:=rnoact_any p.act h.act
 generalize hna:noActD p.act=na at*
 generalize ho0:okName p.n0=o0 at*
 generalize ho1:okName p.n1=o1 at*
 by_cases hg:p.game<0
 ·have hr:R=false:=HR.out.trans (mayD_neg (by omega))
  have t0:decide (p.game<0)=true:=by simpa using hg
  clear e2 e3 HR ca
  unfold deedCells at A
  go_wp2_with fail
  go_ret
  exact ⟨by first|rfl|(rw [hr];rfl),hbw⟩
 by_cases hg2:p.table<0
 ·have hr:R=false:=HR.out.trans (mayD_neg (by omega))
  have t0:decide (p.game<0)=false:=by simpa using hg
  have t1:decide (p.table<0)=true:=by simpa using hg2
  clear e2 e3 HR ca
  unfold deedCells at A
  go_wp2_with fail
  go_ret
  exact ⟨by first|rfl|(rw [hr];rfl),hbw⟩
 have t0:decide (p.game<0)=false:=by simpa using hg
 have t1:decide (p.table<0)=false:=by simpa using hg2
 by_cases hk:p.kind=1
 ·have hr:R=_:=(HR.out.trans (mayD_one (by omega) hk)).trans e2
  have hr':=Lib.hid hr
  have t2:(p.kind==1)=true:=by simpa using hk
  clear hr e2 e3 HR hg hg2 hk
  unfold deedCells at A
  go_wp2_with fail
  any_goals first
   |(have q:R=false:=(by rw [hr'.out];rw [decide_eq_false (show ¬(p.fmt.size:Int)≤40 by omega)];simp);go_ret;exact ⟨by rw [q];rfl,hbw⟩)
   |skip
  refine (rnamed_ok _ _ hz0).mono ?_
  rintro e W2 ⟨rfl,hb2⟩
  rw [ho0]
  replace bX:=bX.old hb2
  replace hbw:=below_step hbw hb2
  clear A hb2
  have A:=bX.rule
  unfold deedCells at A
  go_wp2_with fail
  any_goals first
   |(have q:R=false:=(by rw [hr'.out];rw [show o0=false from (by first|assumption|exact Bool.eq_false_iff.2 (by assumption))];simp);go_ret;exact ⟨by rw [q];rfl,hbw⟩)
   |skip
  refine (rnamed_ok _ _ hz1).mono ?_
  rintro e W3 ⟨rfl,hb3⟩
  rw [ho1]
  replace bX:=bX.old hb3
  replace hbw:=below_step hbw hb3
  clear A hb3
  have A:=bX.rule
  unfold deedCells at A
  go_wp2_with fail
  any_goals first
   |(have q:R=false:=(by rw [hr'.out];rw [show o1=false from (by first|assumption|exact Bool.eq_false_iff.2 (by assumption))];simp);go_ret;exact ⟨by rw [q];rfl,hbw⟩)
   |(have q:R=false:=(by rw [hr'.out];rw [decide_eq_false (show ¬(h.d0.n:Int)≤60 by omega)];simp);go_ret;exact ⟨by rw [q];rfl,hbw⟩)
   |(have q:R=false:=(by rw [hr'.out];rw [decide_eq_false (show ¬(h.d1.n:Int)≤60 by omega)];simp);go_ret;exact ⟨by rw [q];rfl,hbw⟩)
   |(have q:R=false:=(by rw [hr'.out];rw [decide_eq_false (show ¬(h.dr.n:Int)≤256 by omega)];simp);go_ret;exact ⟨by rw [q];rfl,hbw⟩)
   |skip
  have cb:=rnoact_any p.act h.act W3 (ha.old hbw)
  rw [hna] at cb
  unfold actionVal at cb
  refine cb.mono ?_
  clear cb ca
  rintro e W4 ⟨rfl,hb4⟩
  replace hbw:=below_step hbw hb4
  have q:R=na:=by
   rw [hr'.out,show o0=true by assumption,show o1=true by assumption,decide_eq_true (show (p.fmt.size:Int)≤40 by assumption),decide_eq_true (show (h.d0.n:Int)≤60 by assumption),decide_eq_true (show (h.d1.n:Int)≤60 by assumption),decide_eq_true (show (h.dr.n:Int)≤256 by assumption)]
   rfl
  clear A hb4
  go_wp2_with fail
  go_ret
  exact ⟨by rw [q];rfl,hbw⟩
 ·have hr:R=_:=(HR.out.trans (mayD_two (by omega) hk)).trans e3
  have hr':=Lib.hid hr
  have t2:(p.kind==1)=false:=by simpa using hk
  clear hr e2 e3 HR hg hg2 hk ca ha
  unfold deedCells at A
  go_wp2_with fail
  any_goals first
  |(have q:R=(p.table==0):=(by rw [hr'.out];clear A;simp [*];done);go_ret;exact ⟨by rw [q];rfl,hbw⟩)
  |(have q:R=false:=(by rw [hr'.out];clear A;simp [*];done);go_ret;exact ⟨by rw [q];rfl,hbw⟩)
theorem IntRow.cell {w:World} {a:Option Addr} {n c:Nat} {l:List Int} (h:IntRow w a n c l) (k:Nat) (hk:k<l.length):∃b o,a=some ⟨b,o,none⟩∧w.cell? ⟨b,o+k,none⟩=some (.int .i64 l[k]):=by
 obtain ⟨b,o,e,hc⟩:=h.1 k (by simpa using hk)
 exact ⟨b,o,e,by simpa using hc⟩
def Eight8 (w:World) (v:Int) (f:Nat) (v3 v4:Value) (wr:World):Prop:=
 ∃(k:Nat) (a:Option Addr) (c:Nat),k+f=8∧v4= .int .i64 (k:Int)∧v3= .slice a k c∧Own wr w.heap.size 5 1 a k c (((be8 v).take k).map bv)∧Below w.heap.size w wr
set_option maxHeartbeats 2000000 in
theorem eight8_any (v:Int) (w:World):Calls Tryz.prog 151 #[.int .u64 (IntKind.u64.wrap v)] w fun e w'=>∃a c,e= .returned (.slice a 8 c)∧Own w' w.heap.size 5 1 a 8 c ((be8 v).map bv)∧Below w.heap.size w w':=by
 go_enter Tryz.func151,Tryz.ntmps151
 go_wp2_with fail
 go_loopg [3,4] 8 (Eight8 w v)
 case atStart=>exact ⟨0,none,0,rfl,rfl,rfl,Own.nil _ _ _ _,Below.refl _ _⟩
 case round=>
  obtain ⟨k,a,c,hk,rfl,rfl,hown,hb⟩:=hrel
  have hz:=hb.size
  by_cases hlt:k<8
  ·have u0:decide ((k:Int)<8)=true:=by simp;omega
   have v1:IntKind.i64.wrap (8*(k:Int))=8*(k:Int):=IntWalk.i64_in _ (by omega)
   have v2:IntKind.i64.wrap (56-8*(k:Int))=56-8*(k:Int):=IntWalk.i64_in _ (by omega)
   have v3:(0:Int)≤56-8*(k:Int):=by omega
   have v4:(56-8*(k:Int)).toNat=56-8*k:=by omega
   have vb:IntKind.u64.wrap v/2^(56-8*k)%256=U8 ⟨((BitVec.ofInt 64 v)>>>(56-8*k)).setWidth 8⟩:=be8_byte v _
   have HVB:=Lib.hid vb
   clear vb
   have HT:=Lib.hid (be8_take v k hlt)
   have hA:=hown.alloc (.cells #[.int .u8 (IntKind.u64.wrap v/2^(56-8*k)%256)] 5)
   go_wp2_with (at_builtin;refine wpList_append_row rfl _ _ 22 rfl bytesT' rfl hA rfl (RowAt.new' _ _ _ _ rfl) (by rfl) (by exact all_one _ rfl) (by unfold maxLen;omega) (by omega) (by simp;omega) ?_)
   intro a2 c2 w2 hown2 hg2
   have hb2:=hA.grown (hb.alloc hz _) (Nat.le_refl _) hg2 (by simp;omega)
   clear v1 v2 v3 v4
   go_wp2_with fail
   go_roundg (gk-1)
   case measure=>omega
   case rel=>
    refine ⟨k+1,a2,c2,by omega,by go_num,rfl,?_,hb2⟩
    rw [HT.out,List.map_append]
    rw [HVB.out] at hown2
    simpa [bv] using hown2
  ·have hk8:k=8:=by omega
   subst hk8
   rw [List.take_of_length_le (by rw [be8_length];omega)] at hown
   go_wp2_with fail
   go_ret
   exact ⟨a,c,rfl,hown,hb⟩
def OutB (B:Nat) (w:World) (bs:List UInt8) (e:Ending) (w':World):Prop:=∃a c,e= .returned (.slice a bs.length c)∧Own w' B 5 1 a bs.length c (bs.map bv)∧Rx B 5 w w'
set_option maxHeartbeats 2000000 in
theorem rnum_any (w:World) (B:Nat) (a:Option Addr) (n c:Nat) (bs:List UInt8) (v:Int) (hown:Own w B 5 1 a n c (bs.map bv)) (hn:bs.length=n) (hB:B≤w.heap.size) (hz:n<100000000):
  Calls Tryz.prog 122 #[.slice a n c,.int .i64 v] w (OutB B w (bs++be8 v)):=by
 have HN:=Lib.hid hn
 clear hn
 have ce:=eight8_any v w
 go_enter Tryz.func122,Tryz.ntmps122
 go_wp2_with fail
 refine ce.mono ?_
 clear ce
 rintro e w1 ⟨a1,c1,rfl,hown1,hb1⟩
 have ho:=hown.old hb1
 have hB1:=Nat.le_trans hB hb1.size
 go_wp2_with (at_builtin;refine wpList_append_row rfl _ _ 22 rfl bytesT' rfl ho rfl hown1.row (by rw [List.length_map,be8_length]) (bv_one _) (by unfold maxLen;omega) (by omega) hB1 ?_)
 intro a2 c2 w2 hown2 hg2
 have hr:Rx B 5 w w2:=Rx.trans _ _ _ (Rx.old hb1 hB) (Rx.grown ho (Nat.le_refl _) hB1 hg2)
 have hle:(bs++be8 v).length=n+8:=by rw [List.length_append,be8_length,HN.out]
 have HLE:=Lib.hid hle
 clear hle
 go_wp2_with fail
 go_ret
 refine ⟨a2,c2,by (rw [HLE.out];first|done|rfl|simp),?_,hr⟩
 rw [HLE.out,List.map_append]
 exact hown2
def NumsB (w:World) (B:Nat) (bs:List UInt8) (l:List Int) (f:Nat) (v0 v5:Value) (wr:World):Prop:=
 ∃(k:Nat) (a:Option Addr) (c:Nat) (cs:List UInt8),k+f=l.length∧v5= .int .i64 (k:Int)∧v0= .slice a cs.length c∧Hid (cs=bs++(be8 l.length++(l.take k).flatMap be8))∧Own wr B 5 1 a cs.length c (cs.map bv)∧Rx B 5 w wr
set_option maxHeartbeats 2000000 in
theorem rnums_any (w:World) (B:Nat) (a:Option Addr) (n c:Nat) (bs:List UInt8) (s:Sl) (l:List Int) (hown:Own w B 5 1 a n c (bs.map bv)) (hn:bs.length=n) (hB:B≤w.heap.size) (hl:Ints w s l) (hi:InB B s.a s.n) (hz:n+8*s.n+100<100000000):
  Calls Tryz.prog 123 #[.slice a n c,.slice s.a s.n s.c] w (OutB B w (bs++encL l)):=by
 have HL:=Lib.hid hl.2.1
 have HN:=Lib.hid hn
 have cn:=rnum_any w B a n c bs s.n hown hn hB (by omega)
 obtain ⟨sa,sn,sc⟩:=s
 dsimp only at*
 clear hn
 go_enter Tryz.func123,Tryz.ntmps123
 go_wp2_with fail
 refine cn.mono ?_
 clear cn
 rintro e w1 ⟨a1,c1,rfl,hown1,hr1⟩
 obtain ⟨cs,hcs⟩:∃cs,cs=bs++be8 (sn:Int):=⟨_,rfl⟩
 rw [←hcs] at hown1⊢
 have HCS:=Lib.hid hcs
 clear hcs
 have hst:NumsB w B bs l sn (.slice a1 cs.length c1) (.int .i64 0) w1:=⟨0,a1,c1,cs,by rw [HL.out];omega,rfl,rfl,Lib.hid (by rw [HCS.out,HL.out];simp),hown1,hr1⟩
 go_wp2_with fail
 go_loopg [0,5] sn (NumsB w B bs l)
 case atStart=>exact hst
 case round=>
  clear hst hown1
  obtain ⟨k,a2,c2,ds,hk,rfl,rfl,hds,ho,hr⟩:=hrel
  rw [HL.out] at hk
  have hln:ds.length≤n+8+8*sn:=by
   rw [hds.out,List.length_append,List.length_append,be8_length,HN.out,enc_len be8_length,List.length_take]
   omega
  by_cases hlt:k<sn
  ·have t0:decide ((k:Int)<(sn:Int))=true:=by simp;omega
   have hkl:k<l.length:=by rw [HL.out];exact hlt
   obtain ⟨b,o,rfl,hc⟩:=IntRow.cell (show IntRow w sa sn sc l from hl) k hkl
   have hbB:b<B:=hi (by omega) _ rfl
   have hcr:wr.cell? ⟨b,o+k,none⟩=some (.int .i64 l[k]):=by rw [hr.1.cell (p:=⟨b,o+k,none⟩) hbB];exact hc
   have HT:=Lib.hid (List.take_succ_eq_append_getElem hkl)
   generalize l[k]=x at*
   have cb:=rnum_any wr B a2 ds.length c2 ds x ho rfl (Nat.le_trans hB hr.1.size) (by omega)
   clear hc
   go_wp2_with fail
   refine cb.mono ?_
   clear cb
   rintro e w3 ⟨a3,c3,rfl,ho3,hr3⟩
   have hr03:=Rx.trans _ _ _ hr hr3
   obtain ⟨es,hes⟩:∃es,es=ds++be8 x:=⟨_,rfl⟩
   rw [←hes] at ho3⊢
   have HES:=Lib.hid (show es=bs++(be8 l.length++(l.take (k+1)).flatMap be8) by rw [hes,hds.out,HT.out,List.flatMap_append];simp)
   clear hes
   go_wp2_with fail
   go_roundg (gk-1)
   case measure=>omega
   case rel=>exact ⟨k+1,a3,c3,es,by rw [HL.out];omega,by go_num,rfl,HES,ho3,hr03⟩
  ·have t0:decide ((k:Int)<(sn:Int))=false:=by simp;omega
   have HF:=Lib.hid (show ds=bs++encL l by rw [hds.out,List.take_of_length_le (by rw [HL.out];omega)];rfl)
   go_wp2_with fail
   go_ret
   rw [←HF.out]
   exact ⟨a2,c2,rfl,ho,hr⟩
theorem OutB.get {B:Nat} {w w':World} {e:Ending} {bs x:List UInt8} {k:Nat} (h:OutB B w (bs++x) e w') (hx:x.length=k):∃(l:List UInt8) (a:Option Addr) (c:Nat),e= .returned (.slice a l.length c)∧Own w' B 5 1 a l.length c (l.map bv)∧Rx B 5 w w'∧Hid (l=bs++x)∧l.length≤bs.length+k:=by
 obtain ⟨a,c,e1,h1,h2⟩:=h
 exact ⟨bs++x,a,c,e1,h1,h2,Lib.hid rfl,by rw [List.length_append,hx];exact Nat.le_refl _⟩
theorem Rx.undrew {B:Nat} {T:TypeId} {w w':World} (h:Rx B T w.drew w'):Rx B T w w':=⟨⟨h.1.os,h.1.tape,h.1.output,h.1.size,h.1.block⟩,⟨h.2.size,h.2.block⟩⟩
theorem wf8_wrap {n:Int} (h:wf8 n):IntKind.i64.wrap n=n:=by
 simp [wf8,Lit.wf,IntKind.min,IntKind.max,IntKind.signed,IntKind.bits] at h
 exact IntWalk.i64_in _ (by omega)
def PairsB (w:World) (B:Nat) (bs:List UInt8) (l:List PairL) (f:Nat) (v0 v5:Value) (wr:World):Prop:=
 ∃(k:Nat) (a:Option Addr) (c:Nat) (cs:List UInt8),k+f=l.length∧v5= .int .i64 (k:Int)∧v0= .slice a cs.length c∧Hid (cs=bs++(l.take k).flatMap pairB)∧Own wr B 5 1 a cs.length c (cs.map bv)∧Rx B 5 w wr
set_option maxHeartbeats 4000000 in
theorem dactbytes_any (w:World) (p:ActionP) (h:ActionH) (ha:ActionIn w w.heap.size p h) (hz:(actionI p).length+5000<100000000):
  Calls Tryz.prog 78 #[actionVal p h] w (OutB w.heap.size w (actionI p)):=by
 have hlen:(actionI p).length=48+8*p.ids.length+16*p.pairs.length:=by
  simp only [actionI,List.length_append,be8_length,tr1_len,encL_len,encP_len]
  omega
 rw [hlen] at hz
 clear hlen
 obtain ⟨B,hBe⟩:∃B,B=w.heap.size:=⟨_,rfl⟩
 rw [←hBe] at ha⊢
 have hB:B≤w.heap.size:=Nat.le_of_eq hBe
 have p1:=wf8_wrap ha.at'.op
 obtain ⟨op,side,place,target,ids,pairs⟩:=p
 dsimp only at hz p1
 have d1:ids.length=h.ids.n:=ha.at'.ids.2.1
 have d2:pairs.length=h.pairs.n:=ha.at'.pairs.2.1
 rw [d1,d2] at hz
 have D1:=Lib.hid d1
 have D2:=Lib.hid d2
 clear d1 d2
 rw [actionVal_cells]
 go_enter Tryz.func78,Tryz.ntmps78
 go_upto_region 1 with (fail)
 obtain ⟨X,hX⟩:∃X,X=w.heap.size:=⟨_,rfl⟩
 rw [←hX]
 refine wp_forget (fun W=>Blk W X (actionCells ⟨op,side,place,target,ids,pairs⟩ h).toArray 38∧Below w.heap.size w W) ⟨by rw [hX];exact Blk.new w (actionCells ⟨op,side,place,target,ids,pairs⟩ h).toArray _,by (try unfold Kept);repeat (first|assumption|exact Below.refl _ _|exact below_undrew (Below.refl _ _)|exact Below.mono (by assumption) (by first|(simp;done)|(simp;omega)|omega)|refine below_setRow ?_ (by first|(simp;done)|(simp;omega)|omega) _|refine Below.setCell ?_ (by first|(simp;done)|(simp;omega)|omega) _|refine Below.alloc ?_ (by first|(simp;done)|(simp;omega)|omega) _|refine below_drewN ?_ _|refine Below.drew ?_|refine below_undrew ?_|refine below_step ?_ (by assumption))⟩ ?_
 rintro w0 ⟨hx0,hb0⟩
 clear hX
 have hB0:=Nat.le_trans hB hb0.size
 have R0:Rx B 5 w w0:=Rx.old hb0 hB
 have ha0:=ha.low R0.1
 clear ha hBe
 obtain ⟨l0,hl0⟩:∃l:List UInt8,l=[]:=⟨_,rfl⟩
 have o0:Own w0 B 5 1 none l0.length 0 (l0.map bv):=by rw [hl0];exact Own.nil _ _ _ _
 have z0:l0.length≤0:=by rw [hl0];exact Nat.le_refl _
 have x0:∀W,Rx B 5 w0.drew W→W.cell? ⟨X,0,none⟩=some (.int .i8 op):=fun W hW=>(hW.blk hx0.drew (by decide)).rule 0
 have x1:∀W,Rx B 5 w0.drew W→W.cell? ⟨X,1,none⟩=some (.int .i64 side):=fun W hW=>(hW.blk hx0.drew (by decide)).rule 1
 have x2:∀W,Rx B 5 w0.drew W→W.cell? ⟨X,2,none⟩=some (.int .i64 place):=fun W hW=>(hW.blk hx0.drew (by decide)).rule 2
 have x3:∀W,Rx B 5 w0.drew W→W.cell? ⟨X,3,none⟩=some (.int .i64 target):=fun W hW=>(hW.blk hx0.drew (by decide)).rule 3
 have HL0:=Lib.hid hl0
 have c1:=rnum_any w0.drew B none l0.length 0 l0 op o0 rfl hB0 (by omega)
 have hln:l0.length=0:=by rw [hl0];rfl
 rw [hln] at c1
 clear hl0 hln
 go_wp2_with fail
 refine wp_region_treeX B 5 (.step 0 (.step 1 (.step 2 (.step 3 (.step 5 (.step 6 (.step 8 (.step 9 (.step 11 (.step 12 (.step 4 (.step 7 (.step 10 (.step 13 (.step 14 .done))))))))))))))) (by kernel_rfl) (by kernel_rfl) (fun c a d v w h=>by cases d<;>exact h) ?_
 repeat (first|(refine tree_skip rfl (by rfl) ?_;simp only [Act.put,List.setIfInBounds_toArray,List.set])|(refine tree_quiet (v:= ?_) rfl rfl (by rfl) ?_ ?_;rotate_left;(intro W hW;go_simp);(try with_reducible rfl);simp only [Act.put,List.setIfInBounds_toArray,List.set]))
 refine tree_loud rfl rfl (by rfl) (fun K hK=> ?_)
 go_wp2_with fail
 refine c1.mono ?_
 clear c1
 intro e1 w1 g1
 obtain ⟨l1,a1,c1,rfl,o1,r1,H1,z1⟩:=g1.get (be8_length _)
 have hB1:=Nat.le_trans hB0 r1.1.size
 go_wp2_with fail
 refine hK _ _ r1 ?_
 clear hK K
 replace r1:=Rx.undrew r1
 have R1:=Rx.trans _ _ _ R0 r1
 refine tree_loud rfl rfl (by rfl) (fun K hK=> ?_)
 go_wp2_with fail
 have c2:=rnum_any w1 B a1 l1.length c1 l1 side o1 rfl hB1 (by omega)
 refine c2.mono ?_
 clear c2
 intro e2 w2 g2
 obtain ⟨l2,a2,c2,rfl,o2,r2,H2,z2⟩:=g2.get (be8_length _)
 have hB2:=Nat.le_trans hB1 r2.1.size
 go_wp2_with fail
 refine hK _ _ r2 ?_
 clear hK K
 have R2:=Rx.trans _ _ _ R1 r2
 refine tree_loud rfl rfl (by rfl) (fun K hK=> ?_)
 go_wp2_with fail
 have c3:=rnum_any w2 B a2 l2.length c2 l2 place o2 rfl hB2 (by omega)
 refine c3.mono ?_
 clear c3
 intro e3 w3 g3
 obtain ⟨l3,a3,c3,rfl,o3,r3,H3,z3⟩:=g3.get (be8_length _)
 have hB3:=Nat.le_trans hB2 r3.1.size
 go_wp2_with fail
 refine hK _ _ r3 ?_
 clear hK K
 have R3:=Rx.trans _ _ _ R2 r3
 refine tree_loud rfl rfl (by rfl) (fun K hK=> ?_)
 go_wp2_with fail
 have c4:=rnum_any w3 B a3 l3.length c3 l3 target o3 rfl hB3 (by omega)
 refine c4.mono ?_
 clear c4
 intro e4 w4 g4
 obtain ⟨l4,a4,c4,rfl,o4,r4,H4,z4⟩:=g4.get (be8_length _)
 have hB4:=Nat.le_trans hB3 r4.1.size
 go_wp2_with fail
 refine hK _ _ r4 ?_
 clear hK K
 have R4:=Rx.trans _ _ _ R3 r4
 clear x0 x1 x2 x3
 repeat (first|(refine tree_skip rfl (by rfl) ?_;simp only [Act.put,List.setIfInBounds_toArray,List.set])|(refine tree_quiet (v:= ?_) rfl rfl (by rfl) ?_ ?_;rotate_left;(intro W hW;go_simp);(try with_reducible rfl);simp only [Act.put,List.setIfInBounds_toArray,List.set]))
 refine tree_done ?_
 have r14:=Rx.trans _ _ _ r1 (Rx.trans _ _ _ r2 (Rx.trans _ _ _ r3 r4))
 have hx4:=r14.blk hx0.drew (by decide)
 have ha4:=ha0.low r14.1
 have E4:=Lib.hid (show l4=be8 op++be8 side++be8 place++be8 target by rw [H4.out,H3.out,H2.out,H1.out,HL0.out];simp)
 clear H1 H2 H3 H4 hx0 ha0
 have x4:∀W,Rx B 5 w4.drew W→W.cell? ⟨X,4,none⟩=some (.slice h.ids.a h.ids.n h.ids.c):=fun W hW=>(hW.blk hx4.drew (by decide)).rule 4
 have x5:∀W,Rx B 5 w4.drew W→W.cell? ⟨X,5,none⟩=some (.slice h.pairs.a h.pairs.n h.pairs.c):=fun W hW=>(hW.blk hx4.drew (by decide)).rule 5
 go_wp2_with fail
 refine wp_region_treeX B 5 (.step 0 (.step 1 (.step 2 (.step 4 (.step 5 (.step 6 (.step 3 (.step 7 (.step 8 .done))))))))) (by kernel_rfl) (by kernel_rfl) (fun c a d v w h=>by cases d<;>exact h) ?_
 repeat (first|(refine tree_skip rfl (by rfl) ?_;simp only [Act.put,List.setIfInBounds_toArray,List.set])|(refine tree_quiet (v:= ?_) rfl rfl (by rfl) ?_ ?_;rotate_left;(intro W hW;go_simp);(try with_reducible rfl);simp only [Act.put,List.setIfInBounds_toArray,List.set]))
 refine tree_loud rfl rfl (by rfl) (fun K hK=> ?_)
 go_wp2_with fail
 have c5:=rnums_any w4.drew B a4 l4.length c4 l4 h.ids ids o4 rfl hB4 ha4.at'.ids ha4.ids (by omega)
 refine c5.mono ?_
 clear c5
 intro e5 w5 g5
 obtain ⟨l5,a5,c5,rfl,o5,r5,H5,z5⟩:=g5.get (encL_len _)
 have hB5:=Nat.le_trans hB4 r5.1.size
 go_wp2_with fail
 refine hK _ _ r5 ?_
 clear hK K
 replace r5:=Rx.undrew r5
 have R5:=Rx.trans _ _ _ R4 r5
 rw [D1.out] at z5
 refine tree_loud rfl rfl (by rfl) (fun K hK=> ?_)
 go_wp2_with fail
 have c6:=rnum_any w5 B a5 l5.length c5 l5 h.pairs.n o5 rfl hB5 (by omega)
 refine c6.mono ?_
 clear c6
 intro e6 w6 g6
 obtain ⟨l6,a6,c6,rfl,o6,r6,H6,z6⟩:=g6.get (be8_length _)
 have hB6:=Nat.le_trans hB5 r6.1.size
 go_wp2_with fail
 refine hK _ _ r6 ?_
 clear hK K
 have R6:=Rx.trans _ _ _ R5 r6
 clear x4 x5
 repeat (first|(refine tree_skip rfl (by rfl) ?_;simp only [Act.put,List.setIfInBounds_toArray,List.set])|(refine tree_quiet (v:= ?_) rfl rfl (by rfl) ?_ ?_;rotate_left;(intro W hW;go_simp);(try with_reducible rfl);simp only [Act.put,List.setIfInBounds_toArray,List.set]))
 refine tree_done ?_
 have hx6:=(Rx.trans _ _ _ r5 r6).blk hx4.drew (by decide)
 have ha6:=ha4.low (Rx.trans _ _ _ r5 r6).1
 have E6:=Lib.hid (show l6=be8 op++be8 side++be8 place++be8 target++encL ids++be8 pairs.length by rw [H6.out,H5.out,E4.out,D2.out])
 clear H5 H6 E4 hx4 ha4
 have hst:PairsB w6 B l6 pairs h.pairs.n (.slice a6 l6.length c6) (.int .i64 0) w6:=⟨0,a6,c6,l6,by rw [D2.out];omega,rfl,rfl,Lib.hid (by simp),o6,Rx.refl _⟩
 go_wp2_with fail
 go_loopg [3,4] h.pairs.n (PairsB w6 B l6 pairs)
 case atStart=>exact hst
 case round=>
  clear hst o6
  obtain ⟨k,a8,c8,l8,hk,rfl,rfl,H8,o8,r8⟩:=hrel
  rw [D2.out] at hk
  have z8:l8.length≤l6.length+16*k:=by
   rw [H8.out,List.length_append,enc_len (n:=16) (fun x=>by simp [pairB,be8_length]),List.length_take,D2.out]
   omega
  have hB8:=Nat.le_trans hB6 r8.1.size
  have hx8:=r8.blk hx6 (by decide)
  have cx5:wr.cell? ⟨X,5,none⟩=some (.slice h.pairs.a h.pairs.n h.pairs.c):=hx8.rule 5
  by_cases hlt:k<h.pairs.n
  ·have t0:decide ((k:Int)<(h.pairs.n:Int))=true:=by simp;omega
   have hkl:k<pairs.length:=by rw [D2.out];exact hlt
   obtain ⟨b,o,hab,hbl,hc⟩:=RowAt.elem (g:=PairL.cells) (sz:=2) (fun _=>rfl) ha6.at'.pairs.1 (by omega) k hkl
   have hbB:b<B:=ha6.pairs (by omega) _ hab
   have y5:∀W,Rx B 5 wr.drew W→W.cell? ⟨X,5,none⟩=some (.slice (some ⟨b,o,none⟩) h.pairs.n h.pairs.c):=fun W hW=>by rw [←hab];exact (hW.blk hx8.drew (by decide)).rule 5
   rw [hab] at cx5
   clear hab
   have HT:=Lib.hid (List.take_succ_eq_append_getElem hkl)
   generalize pairs[k]=u at*
   have hcw:∀j (hj:j<u.cells.length),∀W,Rx B 5 wr.drew W→W.cell? ⟨b,o+k*2+j,none⟩=some u.cells[j]:=fun j hj W hW=>hW.cell hbB (r8.cell hbB (hc j hj))
   clear hc
   obtain ⟨x,y⟩:=u
   have y0:∀W,Rx B 5 wr.drew W→W.cell? ⟨b,o+k*2,none⟩=some (.int .i64 x):=hcw 0 (by show 0<2;omega)
   have y1:∀W,Rx B 5 wr.drew W→W.cell? ⟨b,o+k*2+1,none⟩=some (.int .i64 y):=hcw 1 (by show 1<2;omega)
   clear hcw
   go_wp2_with fail
   refine wp_region_treeX B 5 (.step 0 (.step 1 (.step 2 (.step 3 (.step 4 (.step 5 (.step 6 (.step 8 (.step 9 (.step 10 (.step 11 (.step 12 (.step 13 (.step 7 (.step 14 (.step 15 .done)))))))))))))))) (by kernel_rfl) (by kernel_rfl) (fun c a d v w h=>by cases d<;>exact h) ?_
   repeat (first|(refine tree_skip rfl (by rfl) ?_;simp only [Act.put,List.setIfInBounds_toArray,List.set])|(refine tree_quiet (v:= ?_) rfl rfl (by rfl) ?_ ?_;rotate_left;(intro W hW;go_simp);(try with_reducible rfl);simp only [Act.put,List.setIfInBounds_toArray,List.set]))
   refine tree_loud rfl rfl (by rfl) (fun K hK=> ?_)
   go_wp2_with fail
   have c9:=rnum_any wr.drew B a8 l8.length c8 l8 x o8 rfl hB8 (by omega)
   refine c9.mono ?_
   clear c9
   intro e9 w9 g9
   obtain ⟨l9,a9,c9,rfl,o9,r9,H9,z9⟩:=g9.get (be8_length _)
   have hB9:=Nat.le_trans hB8 r9.1.size
   go_wp2_with fail
   refine hK _ _ r9 ?_
   clear hK K
   replace r9:=Rx.undrew r9
   refine tree_loud rfl rfl (by rfl) (fun K hK=> ?_)
   go_wp2_with fail
   have c10:=rnum_any w9 B a9 l9.length c9 l9 y o9 rfl hB9 (by omega)
   refine c10.mono ?_
   clear c10
   intro e10 w10 g10
   obtain ⟨l10,a10,c10,rfl,o10,r10,H10,z10⟩:=g10.get (be8_length _)
   have hB10:=Nat.le_trans hB9 r10.1.size
   go_wp2_with fail
   refine hK _ _ r10 ?_
   clear hK K
   clear y0 y1 y5
   repeat (first|(refine tree_skip rfl (by rfl) ?_;simp only [Act.put,List.setIfInBounds_toArray,List.set])|(refine tree_quiet (v:= ?_) rfl rfl (by rfl) ?_ ?_;rotate_left;(intro W hW;go_simp);(try with_reducible rfl);simp only [Act.put,List.setIfInBounds_toArray,List.set]))
   refine tree_done ?_
   have r12:=Rx.trans _ _ _ r8 (Rx.trans _ _ _ r9 r10)
   have H12:=Lib.hid (show l10=l6++(pairs.take (k+1)).flatMap pairB by rw [H10.out,H9.out,H8.out,HT.out,List.flatMap_append];simp [pairB])
   clear H8 H9 H10 r8 r9 r10
   go_wp2_with fail
   go_roundg (gk-1)
   case measure=>omega
   case rel=>exact ⟨k+1,a10,c10,l10,by rw [D2.out];omega,by go_num,rfl,H12,o10,r12⟩
  ·have t0:decide ((k:Int)<(h.pairs.n:Int))=false:=by simp;omega
   have HF:=Lib.hid (show l8=actionI ⟨op,side,place,target,ids,pairs⟩ by rw [H8.out,List.take_of_length_le (by rw [D2.out];omega),E6.out,actionI,encP];simp)
   have R8:=Rx.trans _ _ _ R6 r8
   clear H8 E6 hx6
   go_wp2_with fail
   go_ret
   rw [←HF.out]
   exact ⟨a8,c8,rfl,o8,R8⟩
end
end Go.Proofs.YtioigihakjlopaaGreat
