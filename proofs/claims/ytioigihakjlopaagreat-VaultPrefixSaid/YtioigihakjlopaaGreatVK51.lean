/- Texts put together and cut to what is used: VWakes, VLaw, VaultBack, VCame. -/
import Derived.Test.YtioigihakjlopaaGreatVK48
import Derived.Test.YtioigihakjlopaaGreatVK50
namespace Go.Proofs.YtioigihakjlopaaGreat
set_option linter.unusedVariables false
set_option linter.unusedSimpArgs false
section
open Go.RowKit Go.Maps
set_option maxRecDepth 20000
theorem wk0_open (m:List UInt8):vopE wk0 nmJ m=0∧vopD wk0 nmJ m=one1 nmJ [] 0∧vopL wk0 nmJ m=[]∧vopN wk0 nmJ m=0∧vopLs wk0 nmJ m=[]:=new_vopen okJ m
def KV (w:World) (B d v:Nat) (m:List UInt8) (l:List DeedP) (ls:List (List UInt8)):Prop:=
 ∃r V,VL w B r V∧r.d=d∧V.v=v∧r.p=one1 nmJ (records ls) (records ls).length∧V.m=m∧V.l=l∧V.R.ls=ls∧V.R.nm=nmJ∧V.down=false
theorem kopen0 (w:World) (B:Nat) (r:DiskR) (h:DiskAt w B r) (hB:B≤w.heap.size) (hp:r.p=wk0) (ma:Option Addr) (mn mc:Nat) (m:List UInt8) (hma:BytesAt w ma m) (hml:m.length=mn) (hmz:mn≤1000000) (hmf:m≠ []→∀ad,ma=some ad→¬foot r ad.block):
  Calls Tryz.prog 11 #[.pointer (some ⟨r.d,0,none⟩),.string nmJ,.slice ma mn mc] w fun e w'=>∃v,e= .returned (.tuple #[.pointer (some ⟨v,0,none⟩),.int .i64 0,.int .i64 0])∧KV w' B r.d v m [] []∧Below B w w':=by
 refine (vopen_any w B r nmJ h hB (by decide) ma mn mc m hma hml hmz hmf).mono ?_
 rintro e w' ⟨r',hp',hst,hres⟩
 obtain ⟨k1,k2,k3,k4,k5⟩:=wk0_open m
 rw [hp] at hp' hres
 rcases hres with ⟨h1,_⟩|⟨_,V,rfl,hV,hm,hl,hls,hnm,hdn,_⟩
 ·exact absurd k1 h1
 ·exact ⟨V.v,by rw [k4];rfl,⟨r',V,hV,hst.d,rfl,by rw [hp',k2];rfl,hm,by rw [hl,k3],by rw [hls,k5],hnm,hdn⟩,hst.below h hB⟩
theorem kput {w0 w:World} {B d v:Nat} {m:List UInt8} {l:List DeedP} {ls:List (List UInt8)} (h:KV w0 B d v m l ls) (hb:Below w0.heap.size w0 w) (hB:B≤w0.heap.size) {x:DeedP} {hx:DeedH} (hdo:DeedOwn w w0.heap.size x hx)
  (hm:mayD x=true) (hf:followsD l x=true) (hz:(bytesD x).length≤65000) (hl:ls.length<4096) (hs:(records ls).length+(bytesD x).length+48≤1048576) (ha:(actionI x.act).length<100000000000):
  Calls Tryz.prog 13 #[.pointer (some ⟨v,0,none⟩),deedVal x hx] w fun e w'=>e= .returned (.int .i64 0)∧KV w' B d v m (l++ [x]) (ls++ [loadV m l x])∧Below B w w':=by
 obtain ⟨r,V,h,rfl,rfl,hp,rfl,rfl,rfl,hnm,hdn⟩:=h
 have h1:=h.old hb
 have hB1:B≤w.heap.size:=Nat.le_trans hB hb.size
 refine (vput_any w B r V h1 hB1 x hx (fun W ht=>(hdo.turn ht fun y hy=>(h.lt hy).2).at) ha).mono ?_
 rintro e w' ⟨r',V',rfl,hst,hp',hl',hls',hnm',hdn'⟩
 obtain ⟨k1,k2,k3,k4⟩:=one_put (b:=records V.R.ls) (s:=(records V.R.ls).length) hnm hdn hm hf hz hl hs
 rw [hp] at hp' hl' hls' hdn'⊢
 rw [k1,if_pos rfl] at hl'
 rw [k1]
 exact ⟨rfl,⟨r',V',hst.at',hst.d,hst.v,by rw [hp',k2,records_snoc],hst.m,hl',by rw [hls',k3],hnm'.trans hnm,by rw [hdn',k4]⟩,hst.below h1 hB1⟩
theorem kbad {w:World} {B d v:Nat} {m:List UInt8} {l:List DeedP} {ls:List (List UInt8)} (h:KV w B d v m l ls) (hB:B≤w.heap.size) {x:DeedP} {hx:DeedH} (hdo:DeedOwn w w.heap.size x hx)
  (hf:(mayD x&&followsD l x)=false) (ha:(actionI x.act).length<100000000000):
  Calls Tryz.prog 13 #[.pointer (some ⟨v,0,none⟩),deedVal x hx] w fun e w'=>e= .returned (.int .i64 2)∧KV w' B d v m l ls∧Below B w w':=by
 obtain ⟨r,V,h,rfl,rfl,hp,rfl,rfl,rfl,hnm,hdn⟩:=h
 refine (vput_any w B r V h hB x hx (fun W ht=>(hdo.turn ht fun y hy=>(h.lt hy).2).at) ha).mono ?_
 rintro e w' ⟨r',V',rfl,hst,hp',hl',hls',hnm',hdn'⟩
 have e0:putOk V x=false:=hf
 have nd:¬V.down=true:=by rw [hdn];simp
 have k1:putE r.p V x=2:=by unfold putE;rw [if_neg nd,if_pos e0]
 have k2:putD r.p V x=r.p:=by unfold putD;rw [if_neg nd,if_pos e0]
 have k3:putLs r.p V x=V.R.ls:=by unfold putLs;rw [if_neg nd,if_pos e0]
 have k4:putDn r.p V x=false:=by unfold putDn;rw [if_neg nd,if_pos e0]
 rw [k1,if_neg (by decide)] at hl'
 rw [k1]
 exact ⟨rfl,⟨r',V',hst.at',hst.d,hst.v,by rw [hp',k2,hp],hst.m,hl',by rw [hls',k3],hnm'.trans hnm,by rw [hdn',k4]⟩,hst.below h hB⟩
theorem kopen (w:World) (B:Nat) (r:DiskR) (h:DiskAt w B r) (hB:B≤w.heap.size) (ma:Option Addr) (mn mc:Nat) (m:List UInt8) (he:vopE r.p nmJ m=0) (hma:BytesAt w ma m) (hml:m.length=mn) (hmz:mn≤1000000) (hmf:m≠ []→∀ad,ma=some ad→¬foot r ad.block):
  Calls Tryz.prog 11 #[.pointer (some ⟨r.d,0,none⟩),.string nmJ,.slice ma mn mc] w fun e w'=>∃d V,e= .returned (.tuple #[.pointer (some ⟨V.v,0,none⟩),.int .i64 (vopN r.p nmJ m:Int),.int .i64 0])∧V.l=vopL r.p nmJ m∧VaultAt w' B d V∧(∀x,lfoot V.R x∨vrest V x→w.heap.size≤x)∧Turn (foot r) w w':=by
 refine (vopen_any w B r nmJ h hB (by decide) ma mn mc m hma hml hmz hmf).mono ?_
 rintro e w' ⟨r',hp',hst,hres⟩
 rcases hres with ⟨h1,_⟩|⟨_,V,rfl,hV,hm,hl,hls,hnm,hdn,hhi⟩
 ·exact absurd he h1
 ·exact ⟨_,V,rfl,hl,hV.vault,hhi,hst.turn⟩
theorem sizeAlloc (w:World) (o:Obj):(w.alloc o).heap.size=w.heap.size+1:=by simp
theorem like_wk {p:DiskP} (h:Like p wkD):p=wkD:=by
 have h1:=h.fs
 obtain ⟨fs,a,b,c,d⟩:=p
 have e:fs=wkD.fs:=List.perm_singleton.1 h1
 obtain ⟨e1,e2,e3,e4⟩:=h.rest
 have e1:a=wkD.down:=e1
 have e2:b=wkD.armed:=e2
 have e3:c=wkD.left:=e3
 have e4:d=wkD.plan:=e4
 subst e e1 e2 e3 e4
 rfl
theorem bad_own (w:World) (B:Nat):DeedOwn w B badDd nilDH:=
 ⟨by unfold wf8;decide,by unfold wf64;decide,rfl,Nat.zero_le _,Nat.zero_le _,Nat.zero_le _,OwnInts.nil _ _,OwnInts.nil _ _,OwnInts.nil _ _,⟨rfl,rfl,rfl,rfl,OwnInts.nil _ _,OwnPairs.nil _ _⟩⟩
theorem giv_own (w:World) (B:Nat):DeedOwn w B givD nilDH:=
 ⟨by unfold wf8;decide,by unfold wf64;decide,rfl,Nat.zero_le _,Nat.zero_le _,Nat.zero_le _,OwnInts.nil _ _,OwnInts.nil _ _,OwnInts.nil _ _,⟨by unfold wf8;decide,rfl,rfl,rfl,OwnInts.nil _ _,OwnPairs.nil _ _⟩⟩
set_option maxHeartbeats 4000000 in
theorem vwakes_any (w:World):Calls Tryz.prog 9 #[] w fun e w'=>e= .returned (.bool true)∧Below w.heap.size w w':=by
 have kc:=fun (w:World) (C:Array Value) (n c:Nat)=>Lib.run_convert_bytes_const (P:=Tryz.prog) w 22 5 C n c Tryz.underlying22 Tryz.underlying5
 go_enter Tryz.func9,Tryz.ntmps9
 go_wp2_with fail
 refine (new_any' w).mono ?_
 rintro e w1 ⟨r1,rfl,hp1,hd1,hb1⟩
 have HP1:=Lib.hid hp1.out
 clear hp1
 have hz1:=hb1.size
 obtain ⟨B,hB⟩:∃B,B=w.heap.size:=⟨_,rfl⟩
 rw [←hB] at hd1 hb1 hz1
 go_wp2_with fail
 refine (kopen0 _ B r1 (hd1.old ((Below.refl _ _).alloc (Nat.le_refl _) _)) (by simp;omega) HP1.out _ 6 6 vmast (BytesAt.new w1 #[.int .u8 109,.int .u8 97,.int .u8 115,.int .u8 116,.int .u8 101,.int .u8 114] 5 (6,7) vmast rfl) rfl (by omega) (fun _ ad e hf=>by cases e;have:=(hd1.lt hf).2;simp at this)).mono ?_
 rintro e w2 ⟨v,rfl,hk2,hb2⟩
 have hb02:Below B w w2:=(hb1.alloc hz1 _).trans hb2
 have hz2:B≤w2.heap.size:=Nat.le_trans (Nat.le_of_eq hB) hb02.size
 generalize hd:r1.d=d at*
 clear hb1 hb2 hd1 HP1 hz1 hd
 go_wp2_with fail
 refine (vbegun_any w2).mono ?_
 rintro e w3 ⟨h3,rfl,hdo3,hb3⟩
 have hz3:B≤w3.heap.size:=Nat.le_trans hz2 hb3.size
 have hb03:Below B w w3:=hb02.trans (hb3.mono hz2)
 have hc4:=kput hk2 hb3 hz2 hdo3 may_beg fol_beg (by rw [bytes_beg];decide) (by decide) (by rw [bytes_beg];decide) (by decide+kernel)
 clear hk2 hb3 hdo3 hb02
 rw [deedVal_cells] at hc4⊢
 go_wp2_with fail
 refine hc4.mono ?_
 rintro e w4 ⟨rfl,hk4,hb4⟩
 have hb04:Below B w w4:=hb03.trans hb4
 have hz4:B≤w4.heap.size:=Nat.le_trans (Nat.le_of_eq hB) hb04.size
 clear hc4 hb4 hb03 hz3
 go_wp2_with fail
 have hc5:=kbad (x:=badDd) (hx:=nilDH) hk4 hz4 (bad_own _ _) (by rw [List.nil_append,fol_bad,Bool.and_false]) (by decide+kernel)
 refine hc5.mono ?_
 clear hc5 hk4
 rintro e w5 ⟨rfl,hk5,hb5⟩
 have hb05:Below B w w5:=hb04.trans hb5
 have hz5:B≤w5.heap.size:=Nat.le_trans (Nat.le_of_eq hB) hb05.size
 clear hb5 hb04 hz4
 go_wp2_with fail
 have hc6:=kput (x:=givD) (hx:=nilDH) hk5 (Below.refl _ _) hz5 (giv_own _ _) may_giv fol_giv (by have:=len_giv;omega) (by decide) (by have:=len_giv;have:=L1_len;simp only [List.nil_append,records,List.map_cons,List.map_nil,List.flatten_cons,List.flatten_nil,List.length_append,record_length,List.length_nil];unfold L1 at this;omega) (by decide+kernel)
 refine hc6.mono ?_
 clear hc6 hk5
 rintro e w6 ⟨rfl,hk6,hb6⟩
 have hb06:Below B w w6:=hb05.trans hb6
 have hz6:B≤w6.heap.size:=Nat.le_trans (Nat.le_of_eq hB) hb06.size
 clear hb6 hb05 hz5
 obtain ⟨r6,V6,hv6,hd6,rfl,hp6,-⟩:=hk6
 have hp6:r6.p=wkD:=hp6
 have HP6:=Lib.hid hp6
 clear hp6
 go_wp2_with fail
 have hc7:=crash_any w6 B r6 none 0 0 [] hv6.disk hz6 (RowAt.nil _ _) rfl (by unfold maxLen;omega) (fun ad e=>by cases e) (fun ad e=>by cases e)
 rw [hd6] at hc7
 refine hc7.mono ?_
 clear hc7
 rintro e w7 ⟨r7,rfl,hp7,hst7⟩
 have hb07:Below B w w7:=hb06.trans (hst7.below hv6.disk hz6)
 have hz7:B≤w7.heap.size:=Nat.le_trans (Nat.le_of_eq hB) hb07.size
 have hd7:=hst7.at'
 have hdd7:=hst7.d.trans hd6
 rw [HP6.out] at hp7⊢
 have HP7:=Lib.hid hp7
 clear hp7 hst7 hv6 hd6 HP6 hb06 hz6
 go_wp2_with fail
 have hc8:=open_any w7 B r7 hd7
 rw [hdd7] at hc8
 refine hc8.mono ?_
 clear hc8
 rintro e w8 ⟨rfl,r8,hp8,hst8⟩
 have hb08:Below B w w8:=hb07.trans (hst8.below hd7 hz7)
 have hz8:B≤w8.heap.size:=Nat.le_trans (Nat.le_of_eq hB) hb08.size
 have hd8:=hst8.at'
 have hdd8:=hst8.d.trans hdd7
 rw [HP7.out,wk_crash] at hp8
 rw [HP7.out]
 have HP8:=Lib.hid hp8
 clear hp8 hst8 hd7 hdd7 HP7 hb07 hz7
 go_wp2_with fail
 have hc9:=dcopy_any w8 B r8 hd8 (by have:=congrArg DiskP.plan HP8.out;have e:r8.plan=[]:=this;rw [e];decide)
 rw [hdd8] at hc9
 refine hc9.mono ?_
 clear hc9
 rintro e w9 ⟨r9,rfl,hlk,hd9,hb9⟩
 have hp9:r9.p=wkD:=like_wk (by rw [HP8.out] at hlk;exact hlk)
 have HP9:=Lib.hid hp9
 have hb09:Below B w w9:=hb08.trans (hb9.mono hz8)
 have hz9:B≤w9.heap.size:=Nat.le_trans (Nat.le_of_eq hB) hb09.size
 have hd89:=hd8.old hb9
 have hz89:=hb9.size
 clear hp9 hlk hb9 hb08
 go_wp2_with fail
 obtain ⟨k1,k2,k3⟩:=wk_right
 have hcA:=kopen _ B r8 (hd89.old ((Below.refl _ _).alloc (Nat.le_refl _) _)) (by simp;omega) _ 6 6 vmast (by rw [HP8.out];exact k1) (BytesAt.new w9 #[.int .u8 109,.int .u8 97,.int .u8 115,.int .u8 116,.int .u8 101,.int .u8 114] 5 (6,7) vmast rfl) rfl (by omega) (fun _ ad e hf=>by cases e;have:=(hd89.lt hf).2;simp at this)
 rw [hdd8,HP8.out,k2,k3] at hcA
 refine hcA.mono ?_
 clear hcA k1 k2 k3
 rintro e wA ⟨dA,VA,rfl,hlA,hvA,hhA,htA⟩
 have hd9A:DiskAt wA w8.heap.size r9:=by
  refine (hd9.old ((Below.refl _ _).alloc (Nat.le_refl _) _)).turn htA fun x hx hf=> ?_
  have q1:=(hd9.lt hx).1
  have q2:=(hd8.lt hf).2
  omega
 have hzA:=htA.size
 have hb0A:Below B w wA:=(hb09.alloc hz9 _).trans (htA.below (fun x hx=>(hd89.lt hx).1) (by simp;omega))
 have HLA:=Lib.hid hlA
 have hr9:∀x,foot r9 x→x<w9.heap.size:=fun x hx=>(hd9.lt hx).2
 clear hlA htA hd9 hd89 hd8 HP8 hdd8 hb09 hz89
 simp only [sizeAlloc] at hzA hhA
 go_wp2_with fail
 obtain ⟨k1,k2,k3⟩:=wk_wrong
 have hcB:=kopen _ w8.heap.size r9 (hd9A.old ((Below.refl _ _).alloc (Nat.le_refl _) _)) (by simp;have:=(hd9A.lt (.inl rfl));omega) _ 5 5 voth (by rw [HP9.out];exact k1) (BytesAt.new wA #[.int .u8 111,.int .u8 116,.int .u8 104,.int .u8 101,.int .u8 114] 5 (5,6) voth rfl) rfl (by omega) (fun _ ad e hf=>by cases e;have:=(hd9A.lt hf).2;simp at this)
 rw [HP9.out,k2] at hcB
 obtain ⟨n,hn⟩:∃n,n=vopN wkD nmJ voth:=⟨_,rfl⟩
 rw [←hn] at hcB k3
 clear hn k2 k1
 refine hcB.mono ?_
 clear hcB
 rintro e wB ⟨dB,VB,rfl,hlB,hvB,hhB,htB⟩
 have hvAB:VaultAt wB B dA VA:=(hvA.old ((Below.refl _ _).alloc (Nat.le_refl _) _)).keep fun x hx=>htB.block x (by have:=(hvA.lt hx).2;simp;omega) fun hf=>by
  have q1:=hhA x hx
  have q2:=hr9 x hf
  omega
 have hzB:=htB.size
 simp only [sizeAlloc] at hzB
 have hb0B:Below B w wB:=(hb0A.alloc (by omega) _).trans (htB.below (fun x hx=>by have:=(hd9A.lt hx).1;omega) (by simp;omega))
 have HLB:=Lib.hid hlB
 clear hlB hhB htB hd9A hvA hhA hr9 hb0A HP9
 go_wp2_with fail
 refine (vdeeds_any wB B dA VA hvAB).mono ?_
 rintro e wC ⟨aC,cC,dsC,rfl,hlC,hoC,hbC⟩
 have hnC:dsC.length=2:=by
  have:=congrArg List.length hlC
  rw [List.length_map,HLA.out] at this
  exact this
 rw [hnC]
 have hvAC:=hvAB.old hbC
 have hvBC:=hvB.old hbC
 have hb0C:Below B w wC:=hb0B.trans (hbC.mono (by omega))
 have hzC:=hbC.size
 clear hoC hlC hnC hbC hvAB hvB hb0B
 go_wp2_with fail
 refine (vgames_any wC B dA VA hvAC).mono ?_
 rintro e wD ⟨rfl,hbD⟩
 rw [HLA.out,show ((gamesN [begD,givD]:Nat):Int)=1 by decide]
 have hvBD:=hvBC.old hbD
 have hb0D:Below B w wD:=hb0C.trans (hbD.mono (by omega))
 have hzD:=hbD.size
 have hnn:(n:Int)>0:=by omega
 clear hbD hvAC hvBC hb0C
 go_wp2_with fail
 refine (vdeeds_any wD _ dB VB hvBD).mono ?_
 rintro e wE ⟨aE,cE,dsE,rfl,hlE,hoE,hbE⟩
 have hnE:dsE.length=0:=by
  have:=congrArg List.length hlE
  rw [List.length_map,HLB.out] at this
  exact this
 rw [hnE]
 have hb0E:Below B w wE:=hb0D.trans (hbE.mono (by omega))
 clear hoE hlE hnE hbE hvBD hb0D
 go_wp2_with fail
 go_ret
 rw [hB] at hb0E
 exact ⟨rfl,hb0E⟩
end
section
open Go.RowKit
set_option maxRecDepth 20000
def greatD (x:DeedP):Bool:=decide (1500<x.d0.length+x.d1.length+x.dr.length+x.act.ids.length+x.act.pairs.length)||decide (1000<x.fmt.size+x.n0.size+x.n1.size)
set_option maxHeartbeats 1000000 in
theorem vgreat_any (p:DeedP) (h:DeedH) (w:World) (hd:DeedAt w p h):Calls Tryz.prog 12 #[deedVal p h] w fun e w'=>e= .returned (.bool (greatD p))∧Below w.heap.size w w':=by
 have l0:=hd.d0.2.1
 have l1:=hd.d1.2.1
 have l2:=hd.dr.2.1
 have l3:=hd.act.ids.2.1
 have l4:=hd.act.pairs.2.1
 have z0:=hd.d0.2.2.2.2.1
 have z1:=hd.d1.2.2.2.2.1
 have z2:=hd.dr.2.2.2.2.1
 have z3:=hd.act.ids.2.2.2.2.1
 have z4:=hd.act.pairs.2.2.2.2.1
 have y0:p.fmt.size≤140737488351232:=hd.fmt
 have y1:p.n0.size≤140737488351232:=hd.n0
 have y2:p.n1.size≤140737488351232:=hd.n1
 have hg:greatD p=(decide (1500<h.d0.n+h.d1.n+h.dr.n+h.act.ids.n+h.act.pairs.n)||decide (1000<p.fmt.size+p.n0.size+p.n1.size)):=by
  unfold greatD
  rw [l0,l1,l2,l3,l4]
 rw [hg]
 clear hg l0 l1 l2 l3 l4
 obtain ⟨s1,hs1⟩:∃s1,s1=h.d0.n+h.d1.n:=⟨_,rfl⟩
 obtain ⟨s2,hs2⟩:∃s2,s2=s1+h.dr.n:=⟨_,rfl⟩
 obtain ⟨s3,hs3⟩:∃s3,s3=s2+h.act.ids.n:=⟨_,rfl⟩
 obtain ⟨s4,hs4⟩:∃s4,s4=s3+h.act.pairs.n:=⟨_,rfl⟩
 obtain ⟨r1,hr1⟩:∃r1,r1=p.fmt.size+p.n0.size:=⟨_,rfl⟩
 obtain ⟨r2,hr2⟩:∃r2,r2=r1+p.n1.size:=⟨_,rfl⟩
 rw [←hs1,←hs2,←hs3,←hs4,←hr1,←hr2]
 have t1:IntKind.i64.wrap ((h.d0.n:Int)+(h.d1.n:Int))=(s1:Int):=by rw [IntKind.wrap_i64];omega
 have t2:IntKind.i64.wrap ((s1:Int)+(h.dr.n:Int))=(s2:Int):=by rw [IntKind.wrap_i64];omega
 have t3:IntKind.i64.wrap ((s2:Int)+(h.act.ids.n:Int))=(s3:Int):=by rw [IntKind.wrap_i64];omega
 have t4:IntKind.i64.wrap ((s3:Int)+(h.act.pairs.n:Int))=(s4:Int):=by rw [IntKind.wrap_i64];omega
 have u1:IntKind.i64.wrap ((p.fmt.size:Int)+(p.n0.size:Int))=(r1:Int):=by rw [IntKind.wrap_i64];omega
 have u2:IntKind.i64.wrap ((r1:Int)+(p.n1.size:Int))=(r2:Int):=by rw [IntKind.wrap_i64];omega
 clear hs1 hs2 hs3 hs4 hr1 hr2 z0 z1 z2 z3 z4 y0 y1 y2 hd
 rw [deedVal_cells]
 have fin:∀x:World,Below w.heap.size w x→Below w.heap.size w x:=fun _ h=>h
 go_enter Tryz.func12,Tryz.ntmps12
 go_upto_region 1 with (fail)
 refine wp_forget (fun W=>Blk W w.heap.size (deedCells p h).toArray 40∧Below w.heap.size w W) ⟨Blk.new _ _ _,by (try unfold Kept);repeat (first|assumption|exact Below.refl _ _|exact below_undrew (Below.refl _ _)|exact Below.mono (by assumption) (by first|(simp;done)|(simp;omega)|omega)|refine below_setRow ?_ (by first|(simp;done)|(simp;omega)|omega) _|refine Below.setCell ?_ (by first|(simp;done)|(simp;omega)|omega) _|refine Below.alloc ?_ (by first|(simp;done)|(simp;omega)|omega) _|refine below_drewN ?_ _|refine Below.drew ?_|refine below_undrew ?_|refine below_step ?_ (by assumption))⟩ ?_
 obtain ⟨X,hX⟩:∃X,X=w.heap.size:=⟨_,rfl⟩
 rw [←hX]
 have HX:=Lib.hid hX
 clear hX
 rintro W1 ⟨bX,hb1⟩
 have A:=bX.rule
 unfold deedCells at A
 by_cases hs:1500<s4
 ·have t5:decide ((s4:Int)>1500)=true:=by simp;omega
  have t6:decide ((1500:Int)<(s4:Int))=true:=by simp;omega
  go_wp2_with fail
  go_ret
  rw [HX.out] at hb1
  exact ⟨by rw [decide_eq_true hs];rfl,hb1⟩
 ·have t5:decide ((s4:Int)>1500)=false:=by simp;omega
  have t6:decide ((1500:Int)<(s4:Int))=false:=by simp;omega
  have HS:=Lib.hid hs
  clear hs
  have t7:decide ((1000:Int)<(r2:Int))=decide (1000<r2):=by rw [decide_eq_decide];omega
  go_wp2_with fail
  go_ret
  rw [HX.out] at hb1
  exact ⟨by rw [decide_eq_false HS.out,Bool.false_or];first|rfl|(rw [←t7];rfl),hb1⟩
theorem great_no {p:DeedP} (h:greatD p=false):p.d0.length+p.d1.length+p.dr.length+p.act.ids.length+p.act.pairs.length≤1500∧p.fmt.size+p.n0.size+p.n1.size≤1000:=by
 unfold greatD at h
 simp only [Bool.or_eq_false_iff,decide_eq_false_iff_not] at h
 omega
theorem act_is (p:ActionP):(actionI p).length=48+8*p.ids.length+16*p.pairs.length:=by
 unfold actionI
 simp only [List.length_append,be8_length,encL_len,encP_len]
 omega
theorem act_len {p:DeedP} (h:greatD p=false):(actionI p.act).length<100000000000:=by
 have h1:=(great_no h).1
 have h2:=act_is p.act
 omega
theorem bytes_is (p:DeedP):(bytesD p).length≤200+(actionI p.act).length+p.fmt.size+p.n0.size+p.n1.size+8*p.d0.length+8*p.d1.length+8*p.dr.length:=by
 unfold bytesD
 split
 ·simp only [List.length_append,be8_length,List.length_cons,List.length_nil]
  omega
 ·simp only [List.length_append,be8_length,List.length_cons,List.length_nil,encL_len,textB,strL_length]
  omega
theorem bytes_le {p:DeedP} (h:greatD p=false):(bytesD p).length≤30000:=by
 have h1:=bytes_is p
 have h2:=great_no h
 have h3:=act_is p.act
 omega
theorem act_le_bytes {p:DeedP} (h:mayD p=true):(actionI p.act).length≤(bytesD p).length+1000:=by
 rcases mayD_kind h with hk|hk
 ·rw [mayD_begin h hk]
  have e:=act_is zeroA
  have e2:zeroA.ids.length=0∧zeroA.pairs.length=0:=⟨rfl,rfl⟩
  omega
 ·unfold bytesD
  rw [if_pos hk,List.length_append]
  omega
theorem vbytes_ok (p:DeedP) (h:DeedH) (w:World) (hd:DeedAt w p h) (hz:(actionI p.act).length<100000000000) (hm:mayD p=true):
  Calls Tryz.prog 28 #[.agg (deedCells p h).toArray] w fun e w'=>∃a c,e= .returned (.tuple #[.slice a (bytesD p).length c,.int .i64 0])∧Own w' w.heap.size 5 1 a (bytesD p).length c ((bytesD p).map bv)∧Below w.heap.size w w':=
 (vbytes_any p h w hd hz).mono fun e w' q=>by unfold VBytesP at q;rwa [if_pos hm] at q
theorem vbytes_no (p:DeedP) (h:DeedH) (w:World) (hd:DeedAt w p h) (hz:(actionI p.act).length<100000000000) (hm:mayD p=false):
  Calls Tryz.prog 28 #[.agg (deedCells p h).toArray] w fun e w'=>e= .returned (.tuple #[.slice none 0 0,.int .i64 2])∧Below w.heap.size w w':=
 (vbytes_any p h w hd hz).mono fun e w' q=>by unfold VBytesP at q;rwa [if_neg (by simp [hm])] at q
set_option maxHeartbeats 8000000 in
theorem vaultBack_any (p:DeedP) (h:DeedH) (a:Option Addr) (n c:Nat) (l:List UInt8) (w:World) (hd:DeedAt w p h) (hl:BytesAt w a l) (hn:l.length=n) (hc:n≤c):
  Calls Tryz.prog 7 #[deedVal p h,.slice a n c] w fun e w'=>e= .returned (.bool true)∧Below w.heap.size w w':=by
 rw [deedVal_cells]
 go_enter Tryz.func7,Tryz.ntmps7
 go_upto_region 1 with (fail)
 refine wp_forget (fun W=>Blk W w.heap.size (deedCells p h).toArray 40∧Below w.heap.size w W) ⟨Blk.new _ _ _,by (try unfold Kept);repeat (first|assumption|exact Below.refl _ _|exact below_undrew (Below.refl _ _)|exact Below.mono (by assumption) (by first|(simp;done)|(simp;omega)|omega)|refine below_setRow ?_ (by first|(simp;done)|(simp;omega)|omega) _|refine Below.setCell ?_ (by first|(simp;done)|(simp;omega)|omega) _|refine Below.alloc ?_ (by first|(simp;done)|(simp;omega)|omega) _|refine below_drewN ?_ _|refine Below.drew ?_|refine below_undrew ?_|refine below_step ?_ (by assumption))⟩ ?_
 obtain ⟨X,hX⟩:∃X,X=w.heap.size:=⟨_,rfl⟩
 rintro w1 ⟨bX,hb1⟩
 rw [←hX] at bX⊢
 clear hX
 have cg:=vgreat_any p h w1 (hd.old hb1)
 rw [deedVal_cells] at cg
 go_wp2_with (first|refine wpList_load_blk rfl 40 deedT (.tmp 2) rfl rfl bX rfl ?_)
 refine cg.mono ?_
 clear cg
 rintro e w2 ⟨rfl,hb2⟩
 have hbw2:Below w.heap.size w w2:=below_step hb1 hb2
 have bX2:=bX.old hb2
 clear hb1 hb2 bX
 cases hg:greatD p with
 |true=>
  go_wp2_with fail
  refine (vwakes_any _).mono ?_
  rintro e wz ⟨rfl,hbz⟩
  have hbwz:Below w.heap.size w wz:=below_step hbw2 hbz
  go_wp2_with fail
  go_ret
  exact ⟨rfl,hbwz⟩
 |false=>
  by_cases hm:n≤20000
  rotate_left 1
  ·have t0:decide ((n:Int)>20000)=true:=by simp;omega
   have t1:decide ((20000:Int)<(n:Int))=true:=by simp;omega
   go_wp2_with fail
   refine (vwakes_any _).mono ?_
   rintro e wz ⟨rfl,hbz⟩
   have hbwz:Below w.heap.size w wz:=below_step hbw2 hbz
   go_wp2_with fail
   go_ret
   exact ⟨rfl,hbwz⟩
  have t0:decide ((n:Int)>20000)=false:=by simp;omega
  have t1:decide ((20000:Int)<(n:Int))=false:=by simp;omega
  replace hm:n≤1048576:=by omega
  have hal:=act_len hg
  have HG:=Lib.hid hg
  clear hg
  cases hmay:mayD p with
  |false=>
   have cb:=vbytes_no p h w2 (hd.old hbw2) hal hmay
   go_wp2_with (first|refine wpList_load_blk rfl 40 deedT (.tmp 2) rfl rfl bX2 rfl ?_)
   refine cb.mono ?_
   clear cb
   rintro e w3 ⟨rfl,hb3⟩
   have hbw3:Below w.heap.size w w3:=below_step hbw2 hb3
   have bX3:=bX2.old hb3
   have cm:=vmay_any p h w3 (hd.old hbw3)
   rw [deedVal_cells,hmay] at cm
   clear hb3 hbw2 bX2 hmay
   go_wp2_with (first|refine wpList_load_blk rfl 40 deedT (.tmp 2) rfl rfl bX3 rfl ?_)
   refine cm.mono ?_
   clear cm
   rintro e w4 ⟨rfl,hb4⟩
   have hbw4:Below w.heap.size w w4:=below_step hbw3 hb4
   have bX4:=bX3.old hb4
   clear hb4 hbw3 bX3
   go_wp2_with fail
   refine (vread_any w4 a n c l (hl.below hbw4) hn hm hc).mono ?_
   rintro e w5 ⟨g5,rfl,hd5,hb5⟩
   have hbw5:Below w.heap.size w w5:=below_step hbw4 hb5
   have bX5:=bX4.old hb5
   rw [deedVal_cells]
   by_cases hf:(readD l).2=0
   rotate_left 1
   ·have t5:((readD l).2 !=0)=true:=by simpa using hf
    have HF:=Lib.hid hf
    clear hf
    generalize (readD l).2=e5 at*
    go_upto_region 11 with (first|refine wpList_store_blk rfl 40 deedT (.tmp 9) _ rfl rfl rfl (Blk.new _ _ _) rfl rfl rfl ?_)
    refine wp_forget (fun W=>Below w.heap.size w W) (below_step hbw5 (below_setRow ((Below.refl _ _).alloc (Nat.le_refl _) _) (Nat.le_refl _) _)) ?_
    clear hbw5 bX5 hb5 hd5
    intro w6 hbw6
    go_wp2_with fail
    refine (vwakes_any _).mono ?_
    rintro e wz ⟨rfl,hbz⟩
    have hbwz:Below w.heap.size w wz:=below_step hbw6 hbz
    go_wp2_with fail
    go_ret
    exact ⟨rfl,hbwz⟩
   have hrd:=Lib.hid (read_fwd (p:=(readD l).1) (Prod.ext rfl hf))
   rw [hf]
   clear hf
   obtain ⟨q,hq⟩:∃q,q=(readD l).1:=⟨_,rfl⟩
   rw [←hq] at hrd hd5⊢
   clear hq
   go_upto_region 11 with (first|refine wpList_store_blk rfl 40 deedT (.tmp 9) _ rfl rfl rfl (Blk.new _ _ _) rfl rfl rfl ?_)
   have hz5:=hbw5.size
   obtain ⟨Y,hY⟩:∃Y,Y=w5.heap.size:=⟨_,rfl⟩
   rw [←hY]
   refine wp_forget (fun W=>Blk W Y (deedCells q g5).toArray 40∧Below w5.heap.size w5 W) ⟨by rw [hY];exact (Blk.new _ _ _).setRow _,by rw [hY];exact below_setRow ((Below.refl _ _).alloc (Nat.le_refl _) _) (Nat.le_refl _) _⟩ ?_
   clear hY
   rintro w6 ⟨bY,hb6⟩
   have hbw6:Below w.heap.size w w6:=below_step hbw5 hb6
   have cb:=vbytes_ok q g5 w6 (hd5.at.old hb6) (by have:=congrArg List.length hrd.out.2;have h2:=act_le_bytes hrd.out.1;omega) hrd.out.1
   rw [hrd.out.2,hn] at cb
   clear hb6 hb5 hd5 hbw5 bX5
   go_wp2_with (first|refine wpList_load_blk rfl 40 deedT (.tmp 9) rfl rfl bY rfl ?_)
   refine cb.mono ?_
   clear cb
   rintro e w7 ⟨a7,c7,rfl,ho7,hb7⟩
   have hbw7:Below w.heap.size w w7:=below_step hbw6 hb7
   have s1:=run_string_of (P:=Tryz.prog) w7 (src:=22) (dst:=9) (e:=5) (len:=n) (c:=c7) Tryz.underlying22 Tryz.underlying5 Tryz.underlying9 ho7.row hn
   have s2:=run_string_of (P:=Tryz.prog) w7 (src:=22) (dst:=9) (e:=5) (len:=n) (c:=c) Tryz.underlying22 Tryz.underlying5 Tryz.underlying9 (hl.below hbw7) hn
   clear hb7 ho7 hbw6
   go_wp2_with fail
   refine (vwakes_any _).mono ?_
   rintro e wz ⟨rfl,hbz⟩
   have hbwz:Below w.heap.size w wz:=below_step hbw7 hbz
   go_wp2_with fail
   go_ret
   exact ⟨rfl,hbwz⟩
  |true=>
   have cb:=vbytes_ok p h w2 (hd.old hbw2) hal hmay
   have hok:=Lib.hid (read_back p hd.okD hmay)
   have hbl:(bytesD p).length≤1048576:=Nat.le_trans (bytes_le HG.out) (by omega)
   go_wp2_with (first|refine wpList_load_blk rfl 40 deedT (.tmp 2) rfl rfl bX2 rfl ?_)
   refine cb.mono ?_
   clear cb
   rintro e w3 ⟨a3,c3,rfl,ho3,hb3⟩
   have hbw3:Below w.heap.size w w3:=below_step hbw2 hb3
   have bX3:=bX2.old hb3
   have cm:=vmay_any p h w3 (hd.old hbw3)
   rw [deedVal_cells,hmay] at cm
   clear hb3 hbw2 bX2 hmay
   go_wp2_with (first|refine wpList_load_blk rfl 40 deedT (.tmp 2) rfl rfl bX3 rfl ?_)
   refine cm.mono ?_
   clear cm
   rintro e w4 ⟨rfl,hb4⟩
   have hbw4:Below w.heap.size w w4:=below_step hbw3 hb4
   have bX4:=bX3.old hb4
   have ho4:=ho3.old hb4
   clear hb4 hbw3 bX3 ho3
   go_wp2_with fail
   refine (vread_any w4 a3 (bytesD p).length c3 (bytesD p) ho4.row rfl hbl ho4.le).mono ?_
   rintro e w8 ⟨g8,rfl,hd8,hb8⟩
   rw [hok.out] at hd8⊢
   have hbw8:Below w.heap.size w w8:=below_step hbw4 hb8
   have bX8:=bX4.old hb8
   rw [deedVal_cells]
   generalize (bytesD p).length=n3 at*
   clear hb8 hbw4 bX4 ho4 hok hbl
   go_upto_region 8 with (first|refine wpList_store_blk rfl 40 deedT (.tmp 7) _ rfl rfl rfl (Blk.new _ _ _) rfl rfl rfl ?_)
   have hz8:=hbw8.size
   obtain ⟨Y,hY⟩:∃Y,Y=w8.heap.size:=⟨_,rfl⟩
   rw [←hY]
   refine wp_forget (fun W=>Blk W Y (deedCells p g8).toArray 40∧Below w8.heap.size w8 W) ⟨by rw [hY];exact (Blk.new _ _ _).setRow _,by rw [hY];exact below_setRow ((Below.refl _ _).alloc (Nat.le_refl _) _) (Nat.le_refl _) _⟩ ?_
   clear hY
   rintro w9 ⟨bY,hb9⟩
   have hbw9:Below w.heap.size w w9:=below_step hbw8 hb9
   have bX9:=bX8.old hb9
   have cs:=vsame_any p p h g8 w9 (hd.old hbw9) (hd8.at.old hb9)
   rw [deedVal_cells,deedVal_cells,sameB_eq,decide_eq_true rfl] at cs
   clear hb9 hd8 hbw8 bX8
   go_wp2_with (first|refine wpList_load_blkw (by rfl) 40 deedT (.tmp 2) rfl rfl bX9 rfl ?_|refine wpList_load_blkw (by rfl) 40 deedT (.tmp 7) rfl rfl bY rfl ?_)
   refine cs.mono ?_
   clear cs
   rintro e w10 ⟨rfl,hb10⟩
   have hbw10:Below w.heap.size w w10:=below_step hbw9 hb10
   have bX10:=bX9.old hb10
   clear hb10 hbw9 bX9 bY
   go_wp2_with fail
   refine (vread_any w10 a n c l (hl.below hbw10) hn hm hc).mono ?_
   rintro e w5 ⟨g5,rfl,hd5,hb5⟩
   have hbw5:Below w.heap.size w w5:=below_step hbw10 hb5
   have bX5:=bX10.old hb5
   rw [deedVal_cells]
   by_cases hf:(readD l).2=0
   rotate_left 1
   ·have t5:((readD l).2 !=0)=true:=by simpa using hf
    have HF:=Lib.hid hf
    clear hf
    generalize (readD l).2=e5 at*
    go_upto_region 11 with (first|refine wpList_store_blk rfl 40 deedT (.tmp 9) _ rfl rfl rfl (Blk.new _ _ _) rfl rfl rfl ?_)
    refine wp_forget (fun W=>Below w.heap.size w W) (below_step hbw5 (below_setRow ((Below.refl _ _).alloc (Nat.le_refl _) _) (Nat.le_refl _) _)) ?_
    clear hbw5 bX5 hb5 hd5
    intro w6 hbw6
    go_wp2_with fail
    refine (vwakes_any _).mono ?_
    rintro e wz ⟨rfl,hbz⟩
    have hbwz:Below w.heap.size w wz:=below_step hbw6 hbz
    go_wp2_with fail
    go_ret
    exact ⟨rfl,hbwz⟩
   have hrd:=Lib.hid (read_fwd (p:=(readD l).1) (Prod.ext rfl hf))
   rw [hf]
   clear hf
   obtain ⟨q,hq⟩:∃q,q=(readD l).1:=⟨_,rfl⟩
   rw [←hq] at hrd hd5⊢
   clear hq
   go_upto_region 11 with (first|refine wpList_store_blk rfl 40 deedT (.tmp 9) _ rfl rfl rfl (Blk.new _ _ _) rfl rfl rfl ?_)
   have hz5:=hbw5.size
   obtain ⟨Y,hY⟩:∃Y,Y=w5.heap.size:=⟨_,rfl⟩
   rw [←hY]
   refine wp_forget (fun W=>Blk W Y (deedCells q g5).toArray 40∧Below w5.heap.size w5 W) ⟨by rw [hY];exact (Blk.new _ _ _).setRow _,by rw [hY];exact below_setRow ((Below.refl _ _).alloc (Nat.le_refl _) _) (Nat.le_refl _) _⟩ ?_
   clear hY
   rintro w6 ⟨bY,hb6⟩
   have hbw6:Below w.heap.size w w6:=below_step hbw5 hb6
   have cb:=vbytes_ok q g5 w6 (hd5.at.old hb6) (by have:=congrArg List.length hrd.out.2;have h2:=act_le_bytes hrd.out.1;omega) hrd.out.1
   rw [hrd.out.2,hn] at cb
   clear hb6 hb5 hd5 hbw5 bX5
   go_wp2_with (first|refine wpList_load_blk rfl 40 deedT (.tmp 9) rfl rfl bY rfl ?_)
   refine cb.mono ?_
   clear cb
   rintro e w7 ⟨a7,c7,rfl,ho7,hb7⟩
   have hbw7:Below w.heap.size w w7:=below_step hbw6 hb7
   have s1:=run_string_of (P:=Tryz.prog) w7 (src:=22) (dst:=9) (e:=5) (len:=n) (c:=c7) Tryz.underlying22 Tryz.underlying5 Tryz.underlying9 ho7.row hn
   have s2:=run_string_of (P:=Tryz.prog) w7 (src:=22) (dst:=9) (e:=5) (len:=n) (c:=c) Tryz.underlying22 Tryz.underlying5 Tryz.underlying9 (hl.below hbw7) hn
   clear hb7 ho7 hbw6
   go_wp2_with fail
   refine (vwakes_any _).mono ?_
   rintro e wz ⟨rfl,hbz⟩
   have hbwz:Below w.heap.size w wz:=below_step hbw7 hbz
   go_wp2_with fail
   go_ret
   exact ⟨rfl,hbwz⟩
end
section
open Go.ChangeShapes Go.WideShapes Go.ChangeAt Go.RowKit
instance:Inhabited DeedP:=⟨zeroD⟩
section
variable {H:Type} {enc:TypeId×Value→H} {w:World}
def DeedRow (w:World) (a:Option Addr) (n c:Nat) (l:List (DeedP×DeedH)):Prop:=DeedsAt w a l∧l.length=n∧n≤c∧c≤maxLen
theorem came_deeds {v:Value} (h:Came enc Tryz.prog w 23 [v]):∃a n c l,v= .slice a n c∧DeedRow w a n c l:=by
 obtain ⟨a,len,cap,rfl,h1,h2,h3,h4,h5⟩:=h.slice Tryz.underlying23
 obtain ⟨l,hl,hr,hok⟩:=came_row (g:=fun x:DeedP×DeedH=>deedCells x.1 x.2) (Ok:=fun x:DeedP×DeedH=>DeedAt w x.1 x.2) (fun _=>rfl) (show 0<15 by omega) (show Tryz.prog.cellsOf 40=15 by kernel_rfl)
  (fun cs hc hlen=>by obtain ⟨p,g,e,ha⟩:=came_deed hlen hc;exact ⟨(p,g),e,ha⟩) h3 h5
 exact ⟨a,len,cap,l,rfl,⟨hr,hok⟩,hl,h1,h2⟩
end
def sumG (l:List DeedP):Nat→Nat
 |0=>0
 |n+1=>sumG l n+(ofG l (n:Int)).length
theorem sumG_cons (x:DeedP) (l:List DeedP):∀n,sumG (x::l) n=sumG l n+if 0≤x.game∧x.game<(n:Int) then 1 else 0
 |0=>by
  rw [if_neg (by omega)]
  rfl
 |n+1=>by
  have h2:(ofG (x::l) (n:Int)).length=(ofG l (n:Int)).length+if x.game=(n:Int) then 1 else 0:=by
   unfold ofG
   rw [List.filter_cons]
   by_cases e:x.game=(n:Int)<;>simp [e]
  rw [sumG,sumG,sumG_cons x l n,h2]
  by_cases e:x.game=(n:Int)
  ·rw [if_neg (by omega),if_pos e,if_pos (by omega)]
   omega
  ·rw [if_neg e]
   by_cases h:0≤x.game∧x.game<(n:Int)
   ·rw [if_pos h,if_pos (by omega)];omega
   ·rw [if_neg h,if_neg (by omega)];omega
theorem sumG_all {n:Nat}:∀(l:List DeedP),(∀x∈l,0≤x.game∧x.game<(n:Int))→sumG l n=l.length
 | [],_=>by
  have:∀n,sumG [] n=0:=fun n=>by
   induction n with
   |zero=>rfl
   |succ n ih=>rw [sumG,ih];rfl
  exact this n
 |x::l,h=>by
  rw [sumG_cons,sumG_all l fun y hy=>h y (List.mem_cons_of_mem _ hy),if_pos (h x List.mem_cons_self)]
  rfl
theorem sumG_le (l:List DeedP):∀n,sumG l n≤n*l.length
 |0=>by simp [sumG]
 |n+1=>by
  have h:=sumG_le l n
  have h2:=ofG_le l (n:Int)
  rw [sumG,Nat.add_mul]
  omega
end
end Go.Proofs.YtioigihakjlopaaGreat
