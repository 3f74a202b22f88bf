/- Texts put together and cut to what is used: VMay, VMay2, VMay3. -/
import Derived.Test.YtioigihakjlopaaGreatVB06
import Derived.Test.YtioigihakjlopaaGreatVB10
namespace Go.Proofs.YtioigihakjlopaaGreat
set_option linter.unusedVariables false
set_option linter.unusedSimpArgs false
section
open Go.RowKit
set_option maxRecDepth 20000
def noAct (a:ActionP):Bool:=decide (a.op=0)&&(decide (a.side=0)&&(decide (a.place=0)&&(decide (a.target=0)&&decide (a.ids.length+a.pairs.length=0))))
def may1 (x:DeedP):Bool:=decide (0≤x.game)&&decide (0≤x.table)
def may2 (x:DeedP):Bool:=decide (x.fmt.size≤40)&&(okName x.n0&&(okName x.n1&&(decide (x.d0.length≤60)&&(decide (x.d1.length≤60)&&(decide (x.dr.length≤256)&&noAct x.act)))))
def may3 (x:DeedP):Bool:=decide (x.kind=2)&&(decide (x.table=0)&&(decide (x.fmt.size=0)&&((decide (x.n0.size=0)&&decide (x.n1.size=0))&&decide (x.d0.length+x.d1.length+x.dr.length=0))))
def mays (x:DeedP) (k:Nat):Bool:=if k=0 then may1 x else if k=1 then (if x.kind=1 then may2 x else true) else (if x.kind=1 then true else may3 x)
def mayD (x:DeedP):Bool:=mays x 0&&mays x 1&&mays x 2
theorem vnamed_any (s:ByteArray) (w:World):Calls Tryz.prog 92 #[.string s] w fun e w'=>e= .returned (.bool (okName s))∧w'=w:=by
 have hk:okName s=(!s.toList.isEmpty&&decide ((s.size:Int)≤40)):=by
  unfold okName
  rw [str_nil]
  by_cases h0:s.size=0
  ·simp [h0]
  ·simp [h0];omega
 rw [hk]
 clear hk
 by_cases h0:s.toList.isEmpty=true
 ·have h1:s.toList=[]:=List.isEmpty_iff.1 h0
  rw [h0]
  go_enter Tryz.func92,Tryz.ntmps92
  go_wp2_with fail
  all_goals first|(exact absurd h1 (by assumption))|(go_ret;exact ⟨rfl,rfl⟩)
 ·have h1:¬s.toList=[]:=fun e=>h0 (by rw [e];rfl)
  go_enter Tryz.func92,Tryz.ntmps92
  go_wp2_with fail
  all_goals first|(exact absurd (by assumption) h1)|(go_ret;exact ⟨by simp [List.isEmpty_eq_false_iff.2 h1],rfl⟩)
theorem may1_any (b:Nat) (p:DeedP) (h:DeedH) (w:World) (hb:Blk w b (deedCells p h).toArray 40):Calls Tryz.prog 90 #[.pointer (some ⟨b,0,none⟩)] w fun e w'=>e= .returned (.bool (mays p 0))∧w'=w:=by
 have c1:w.cell? ⟨b,1,none⟩=some (.int .i64 p.game):=hb.cell rfl
 have c2:w.cell? ⟨b,2,none⟩=some (.int .i64 p.table):=hb.cell rfl
 rw [show mays p 0=(decide (0≤p.game)&&decide (0≤p.table)) from rfl]
 clear hb
 generalize p.game=g at*
 generalize p.table=t at*
 by_cases h1:0≤g
 ·go_enter Tryz.func90,Tryz.ntmps90
  go_wp2_with fail
  go_ret
  exact ⟨by simp [h1],rfl⟩
 ·go_enter Tryz.func90,Tryz.ntmps90
  go_wp2_with fail
  go_ret
  exact ⟨by rw [decide_eq_false (show ¬0≤g by omega),Bool.false_and];rfl,rfl⟩
theorem strSize (w:World):(sizeOf 9).run Tryz.prog w= .ok 1 w:=by
 have:(Tryz.prog.info? 9).map (fun i=>i.size)=some 1:=by kernel_rfl
 cases hq:Tryz.prog.info? 9 with
 |none=>simp [hq] at this
 |some i=>simp [hq] at this;simp [sizeOf,typeInfo,hq,this]
theorem eq_two (a b c d:Name) (w:World):(binOp .eql 33 (.agg #[.string a,.string b]) (.agg #[.string c,.string d])).run Tryz.prog w= .ok (.bool (a.toList==c.toList&&b.toList==d.toList)) w:=by
 have p1:∀(x y:Name) W,(part 9 #[.string x,.string y] 0).run Tryz.prog W= .ok (.string x) W:=fun x y W=>by simp [part,isAgg,run_underlying Tryz.underlying9]
 have p2:∀(x y:Name) W,(part 9 #[.string x,.string y] 1).run Tryz.prog W= .ok (.string y) W:=fun x y W=>by simp [part,isAgg,run_underlying Tryz.underlying9]
 have pe:∀(x y:Name) W,(Op.equalIn (9998+1) 9 (.string x) (.string y)).run Tryz.prog W= .ok (x.toList==y.toList) W:=fun x y W=>run_equalIn_string W 9998 9 x y Tryz.underlying9
 rw [run_eql_struct,show (10000:Nat)=9998+2 from rfl,Op.equalIn]
 simp only [Sem.run_bind,run_underlying Tryz.underlying33,Result.andThen_ok,strSize,Std.Legacy.Range.forIn_eq_forIn_range',Std.Legacy.Range.size,Nat.sub_zero,Nat.add_sub_cancel,Nat.div_one]
 rw [show List.range' 0 2 1=[0,1] from rfl]
 simp only [List.forIn_cons,List.forIn_nil,Sem.run_bind,Nat.zero_mul,Nat.one_mul,p1,p2,pe,Result.andThen_ok]
 cases (a.toList==c.toList)
 ·simp
 ·have pe':∀(x y:Name) W,(Op.equalIn 9999 9 (.string x) (.string y)).run Tryz.prog W= .ok (x.toList==y.toList) W:=pe
  cases hq:(b.toList==d.toList)<;>simp [p2,pe',hq]
theorem nil_beq (s:Name):(s.toList==([]:List UInt8))=decide (s.size=0):=by
 rw [←str_nil];cases s.toList<;>rfl
theorem eq_names (a b:Name) (w:World):(binOp .eql 33 (.agg #[.string a,.string b]) (.agg #[.string ⟨#[]⟩,.string ⟨#[]⟩])).run Tryz.prog w= .ok (.bool (decide (a.size=0)&&decide (b.size=0))) w:=by
 rw [eq_two,show (ByteArray.toList ⟨#[]⟩)=[] from ByteArray.toList_mk [],nil_beq,nil_beq]
set_option maxHeartbeats 2000000 in
theorem may3_any (b:Nat) (p:DeedP) (h:DeedH) (w:World) (hb:Blk w b (deedCells p h).toArray 40) (hd:DeedAt w p h):Calls Tryz.prog 93 #[.pointer (some ⟨b,0,none⟩)] w fun e w'=>e= .returned (.bool (mays p 2))∧Below w.heap.size w w':=by
 have a0:w.cell? ⟨b,0,none⟩=some (.int .i8 p.kind):=hb.cell rfl
 have a2:w.cell? ⟨b,2,none⟩=some (.int .i64 p.table):=hb.cell rfl
 have a3:w.cell? ⟨b,3,none⟩=some (.string p.fmt):=hb.cell rfl
 have a4:w.cell? ⟨b,4,none⟩=some (.string p.n0):=hb.cell rfl
 have a5:w.cell? ⟨b,5,none⟩=some (.string p.n1):=hb.cell rfl
 have a6:w.cell? ⟨b,6,none⟩=some (.slice h.d0.a h.d0.n h.d0.c):=hb.cell rfl
 have a7:w.cell? ⟨b,7,none⟩=some (.slice h.d1.a h.d1.n h.d1.c):=hb.cell rfl
 have a8:w.cell? ⟨b,8,none⟩=some (.slice h.dr.a h.dr.n h.dr.c):=hb.cell rfl
 have l0:=hd.d0.2.1
 have l1:=hd.d1.2.1
 have l2:=hd.dr.2.1
 have z0:=hd.d0.2.2.2.2.1
 have z1:=hd.d1.2.2.2.2.1
 have z2:=hd.dr.2.2.2.2.1
 obtain ⟨kind,game,table,fmt,n0,n1,d0,d1,dr,ac⟩:=p
 obtain ⟨⟨q0a,q0,q0c⟩,⟨q1a,q1,q1c⟩,⟨q2a,q2,q2c⟩,ha⟩:=h
 dsimp only at*
 clear hb hd
 by_cases hk:kind=1
 ·subst hk
  rw [show mays ⟨1,game,table,fmt,n0,n1,d0,d1,dr,ac⟩ 2=true from rfl]
  go_enter Tryz.func93,Tryz.ntmps93
  go_wp2_with fail
  go_ret
  exact ⟨rfl,Below.refl _ _⟩
 have k1:(kind==1)=false:=by simpa using hk
 rw [show mays ⟨kind,game,table,fmt,n0,n1,d0,d1,dr,ac⟩ 2=(decide (kind=2)&&(decide (table=0)&&(decide (fmt.size=0)&&((decide (n0.size=0)&&decide (n1.size=0))&&decide (q0+q1+q2=0))))) from by unfold mays may3;simp [hk,l0,l1,l2]]
 clear hk l0 l1 l2
 have eqn:=fun W=>eq_names n0 n1 W
 generalize (decide (n0.size=0)&&decide (n1.size=0))=nn at*
 by_cases g0:kind=2
 rotate_left 1
 ·have k2:(kind==2)=false:=by simpa using g0
  rw [decide_eq_false g0,Bool.false_and]
  clear g0
  go_enter Tryz.func93,Tryz.ntmps93
  go_wp2_with fail
  go_ret
  exact ⟨rfl,Below.refl _ _⟩
 subst g0
 rw [decide_eq_true rfl,Bool.true_and]
 by_cases g1:table=0
 rotate_left 1
 ·have k2:(table==0)=false:=by simpa using g1
  rw [decide_eq_false g1,Bool.false_and]
  clear g1
  go_enter Tryz.func93,Tryz.ntmps93
  go_wp2_with fail
  go_ret
  exact ⟨rfl,Below.refl _ _⟩
 subst g1
 rw [decide_eq_true rfl,Bool.true_and]
 by_cases g2:fmt.size=0
 rotate_left 1
 ·have k2:fmt.toList≠ []:=fun e=>g2 (by have:=str_nil fmt;rw [e] at this;simpa using this.symm)
  rw [decide_eq_false g2,Bool.false_and]
  clear g2
  go_enter Tryz.func93,Tryz.ntmps93
  go_wp2_with fail
  have k3:fmt.toList.isEmpty=false:=by simpa using k2
  go_ret
  exact ⟨by simp [k3],Below.refl _ _⟩
 have k2:fmt.toList=[]:=List.isEmpty_iff.1 (by rw [str_nil];simpa using g2)
 rw [decide_eq_true g2,Bool.true_and]
 clear g2
 cases nn with
 |false=>
  rw [Bool.false_and]
  go_enter Tryz.func93,Tryz.ntmps93
  go_wp2_with fail
  go_ret
  exact ⟨rfl,Below.refl _ _⟩
 |true=>
 rw [Bool.true_and]
 have t11:IntKind.i64.wrap ((q0:Int)+(q1:Int))=(q0:Int)+(q1:Int):=by rw [IntKind.wrap_i64];omega
 have t12:IntKind.i64.wrap ((q0:Int)+(q1:Int)+(q2:Int))=(q0:Int)+(q1:Int)+(q2:Int):=by rw [IntKind.wrap_i64];omega
 have t13:((q0:Int)+(q1:Int)+(q2:Int)==0)=decide (q0+q1+q2=0):=by
  rw [Bool.eq_iff_iff,beq_iff_eq,decide_eq_true_iff];omega
 clear z0 z1 z2
 go_enter Tryz.func93,Tryz.ntmps93
 go_wp2_with fail
 have t14:(decide (q0=0)&&decide (q1=0)&&decide (q2=0))=decide (q0+q1+q2=0):=by
  rw [Bool.eq_iff_iff];simp [and_assoc];try omega
 go_ret
 exact ⟨by rw [←t14];rfl,Below.refl _ _⟩
set_option maxHeartbeats 4000000 in
set_option maxRecDepth 100000 in
theorem may2_any (b c:Nat) (p:DeedP) (h:DeedH) (w:World) (hb:Blk w b (deedCells p h).toArray 40) (hc:Blk w c #[.pointer (some ⟨b,9,none⟩)] 150) (hd:DeedAt w p h):Calls Tryz.prog 91 #[.pointer (some ⟨b,0,none⟩),.pointer (some ⟨c,0,none⟩)] w fun e w'=>e= .returned (.bool (mays p 1))∧Below w.heap.size w w':=by
 have a0:∀W,Old w.drew W→W.cell? ⟨c,0,none⟩=some (.pointer (some ⟨b,9,none⟩)):=fun W hW=>(hc.drew.old hW).cell rfl
 have k0:w.cell? ⟨b,0,none⟩=some (.int .i8 p.kind):=hb.cell rfl
 have a3:∀W,Old w.drew W→W.cell? ⟨b,3,none⟩=some (.string p.fmt):=fun W hW=>(hb.drew.old hW).cell rfl
 have a4:∀W,Old w.drew W→W.cell? ⟨b,4,none⟩=some (.string p.n0):=fun W hW=>(hb.drew.old hW).cell rfl
 have a5:∀W,Old w.drew W→W.cell? ⟨b,5,none⟩=some (.string p.n1):=fun W hW=>(hb.drew.old hW).cell rfl
 have a6:∀W,Old w.drew W→W.cell? ⟨b,6,none⟩=some (.slice h.d0.a h.d0.n h.d0.c):=fun W hW=>(hb.drew.old hW).cell rfl
 have a7:∀W,Old w.drew W→W.cell? ⟨b,7,none⟩=some (.slice h.d1.a h.d1.n h.d1.c):=fun W hW=>(hb.drew.old hW).cell rfl
 have a8:∀W,Old w.drew W→W.cell? ⟨b,8,none⟩=some (.slice h.dr.a h.dr.n h.dr.c):=fun W hW=>(hb.drew.old hW).cell rfl
 have a9:∀W,Old w.drew W→W.cell? ⟨b,9,none⟩=some (.int .i8 p.act.op):=fun W hW=>(hb.drew.old hW).cell rfl
 have a10:∀W,Old w.drew W→W.cell? ⟨b,10,none⟩=some (.int .i64 p.act.side):=fun W hW=>(hb.drew.old hW).cell rfl
 have a11:∀W,Old w.drew W→W.cell? ⟨b,11,none⟩=some (.int .i64 p.act.place):=fun W hW=>(hb.drew.old hW).cell rfl
 have a12:∀W,Old w.drew W→W.cell? ⟨b,12,none⟩=some (.int .i64 p.act.target):=fun W hW=>(hb.drew.old hW).cell rfl
 have a13:∀W,Old w.drew W→W.cell? ⟨b,13,none⟩=some (.slice h.act.ids.a h.act.ids.n h.act.ids.c):=fun W hW=>(hb.drew.old hW).cell rfl
 have a14:∀W,Old w.drew W→W.cell? ⟨b,14,none⟩=some (.slice h.act.pairs.a h.act.pairs.n h.act.pairs.c):=fun W hW=>(hb.drew.old hW).cell rfl
 have l0:=hd.d0.2.1
 have l1:=hd.d1.2.1
 have l2:=hd.dr.2.1
 have l3:=hd.act.ids.2.1
 have l4:=hd.act.pairs.2.1
 have z3:=hd.act.ids.2.2.2.2.1
 have z4:=hd.act.pairs.2.2.2.2.1
 obtain ⟨kind,game,table,fmt,n0,n1,d0,d1,dr,op,side,place,target,ids,pairs⟩:=p
 obtain ⟨⟨q0a,q0,q0c⟩,⟨q1a,q1,q1c⟩,⟨q2a,q2,q2c⟩,⟨q3a,q3,q3c⟩,⟨q4a,q4,q4c⟩⟩:=h
 dsimp only at*
 clear hb hc hd
 by_cases hk:kind=1
 ·subst hk
  have hres:mays ⟨1,game,table,fmt,n0,n1,d0,d1,dr,⟨op,side,place,target,ids,pairs⟩⟩ 1=(decide (fmt.size≤40)&&(okName n0&&(okName n1&&(decide (q0≤60)&&(decide (q1≤60)&&(decide (q2≤256)&&(decide (op=0)&&(decide (side=0)&&(decide (place=0)&&(decide (target=0)&&decide (q3+q4=0))))))))))):=by
   rw [←l0,←l1,←l2,←l3,←l4];rfl
  rw [hres]
  clear hres l0 l1 l2 l3 l4
  generalize e1:okName n0=o1
  generalize e2:okName n1=o2
  by_cases g0:fmt.size≤40
  rotate_left 1
  ·have t0:decide ((fmt.size:Int)≤40)=false:=by simp;omega
   rw [decide_eq_false g0,Bool.false_and]
   clear g0
   go_enter Tryz.func91,Tryz.ntmps91
   go_wp2_with fail
   refine wp_region_g (0::1::2::3::4::5::6::7::8::9::10::11::12::13::14::15::16::17::18::19::20::21::22::23::24::25::26::27::28::29::30::31::32::33::34::35::36::37::38::39::40::41::42::43::44::45::46::47::48::49::50::51::52::53::54::55::56::57::58::59::60::61::62::63::64::65::66::67::68::69::70::71::72::73::74::75::76::77::78::[]) (by kernel_rfl) (by kernel_rfl) (fun c a d v w h=>by cases d<;>exact h) ?_
   repeat (first|(refine gex_skip rfl (by rfl) ?_;simp only [Act.put,List.setIfInBounds_toArray,List.set])|(refine gex_quiet (v:= ?_) rfl rfl (by rfl) ?_ ?_;rotate_left;(intro W hW;go_simp);(try with_reducible rfl);simp only [Act.put,List.setIfInBounds_toArray,List.set]))
   refine gex_nil ?_
   go_wp2_with fail
   go_ret
   exact ⟨rfl,(Below.refl _ _).drew⟩
  have t0:decide ((fmt.size:Int)≤40)=true:=by simp;omega
  rw [decide_eq_true g0,Bool.true_and]
  clear g0
  cases o1 with
  |false=>
   simp only [Bool.false_and,Bool.and_false]
   go_enter Tryz.func91,Tryz.ntmps91
   go_wp2_with fail
   refine wp_region_g (0::1::2::3::4::5::6::7::8::9::10::11::12::13::14::15::16::17::18::19::20::21::22::23::24::25::26::27::28::29::30::31::32::33::34::35::36::37::38::39::40::41::42::43::44::45::46::47::48::49::50::51::52::53::54::55::56::57::58::59::60::61::62::63::64::65::66::67::68::69::70::71::72::73::74::75::76::77::78::[]) (by kernel_rfl) (by kernel_rfl) (fun c a d v w h=>by cases d<;>exact h) ?_
   repeat (first|(refine gex_skip rfl (by rfl) ?_;simp only [Act.put,List.setIfInBounds_toArray,List.set])|(refine gex_quiet (v:= ?_) rfl rfl (by rfl) ?_ ?_;rotate_left;(intro W hW;go_simp);(try with_reducible rfl);simp only [Act.put,List.setIfInBounds_toArray,List.set]))
   refine gex_loud rfl rfl (by rfl) (fun K hK=> ?_);go_wp2_with fail
   refine (vnamed_any _ _).mono ?_
   rintro e w1 ⟨rfl,rfl⟩
   rw [e1]
   go_wp2_with fail
   refine hK _ _ (Below.refl _ _) ?_
   clear hK K
   repeat (first|(refine gex_skip rfl (by rfl) ?_;simp only [Act.put,List.setIfInBounds_toArray,List.set])|(refine gex_quiet (v:= ?_) rfl rfl (by rfl) ?_ ?_;rotate_left;(intro W hW;go_simp);(try with_reducible rfl);simp only [Act.put,List.setIfInBounds_toArray,List.set]))
   refine gex_nil ?_
   go_wp2_with fail
   go_ret
   exact ⟨rfl,(Below.refl _ _).drew⟩
  |true=>
   simp only [Bool.true_and]
   cases o2 with
   |false=>
    simp only [Bool.false_and,Bool.and_false]
    go_enter Tryz.func91,Tryz.ntmps91
    go_wp2_with fail
    refine wp_region_g (0::1::2::3::4::5::6::7::8::9::10::11::12::13::14::15::16::17::18::19::20::21::22::23::24::25::26::27::28::29::30::31::32::33::34::35::36::37::38::39::40::41::42::43::44::45::46::47::48::49::50::51::52::53::54::55::56::57::58::59::60::61::62::63::64::65::66::67::68::69::70::71::72::73::74::75::76::77::78::[]) (by kernel_rfl) (by kernel_rfl) (fun c a d v w h=>by cases d<;>exact h) ?_
    repeat (first|(refine gex_skip rfl (by rfl) ?_;simp only [Act.put,List.setIfInBounds_toArray,List.set])|(refine gex_quiet (v:= ?_) rfl rfl (by rfl) ?_ ?_;rotate_left;(intro W hW;go_simp);(try with_reducible rfl);simp only [Act.put,List.setIfInBounds_toArray,List.set]))
    refine gex_loud rfl rfl (by rfl) (fun K hK=> ?_);go_wp2_with fail
    refine (vnamed_any _ _).mono ?_
    rintro e w1 ⟨rfl,rfl⟩
    rw [e1]
    go_wp2_with fail
    refine hK _ _ (Below.refl _ _) ?_
    clear hK K
    repeat (first|(refine gex_skip rfl (by rfl) ?_;simp only [Act.put,List.setIfInBounds_toArray,List.set])|(refine gex_quiet (v:= ?_) rfl rfl (by rfl) ?_ ?_;rotate_left;(intro W hW;go_simp);(try with_reducible rfl);simp only [Act.put,List.setIfInBounds_toArray,List.set]))
    refine gex_loud rfl rfl (by rfl) (fun K hK=> ?_);go_wp2_with fail
    refine (vnamed_any _ _).mono ?_
    rintro e w1 ⟨rfl,rfl⟩
    rw [e2]
    go_wp2_with fail
    refine hK _ _ (Below.refl _ _) ?_
    clear hK K
    repeat (first|(refine gex_skip rfl (by rfl) ?_;simp only [Act.put,List.setIfInBounds_toArray,List.set])|(refine gex_quiet (v:= ?_) rfl rfl (by rfl) ?_ ?_;rotate_left;(intro W hW;go_simp);(try with_reducible rfl);simp only [Act.put,List.setIfInBounds_toArray,List.set]))
    refine gex_nil ?_
    go_wp2_with fail
    go_ret
    exact ⟨rfl,(Below.refl _ _).drew⟩
   |true=>
    simp only [Bool.true_and]
    by_cases g3:q0≤60
    rotate_left 1
    ·have t3:decide ((q0:Int)≤60)=false:=by simp;omega
     rw [decide_eq_false g3,Bool.false_and]
     clear g3
     go_enter Tryz.func91,Tryz.ntmps91
     go_wp2_with fail
     refine wp_region_g (0::1::2::3::4::5::6::7::8::9::10::11::12::13::14::15::16::17::18::19::20::21::22::23::24::25::26::27::28::29::30::31::32::33::34::35::36::37::38::39::40::41::42::43::44::45::46::47::48::49::50::51::52::53::54::55::56::57::58::59::60::61::62::63::64::65::66::67::68::69::70::71::72::73::74::75::76::77::78::[]) (by kernel_rfl) (by kernel_rfl) (fun c a d v w h=>by cases d<;>exact h) ?_
     repeat (first|(refine gex_skip rfl (by rfl) ?_;simp only [Act.put,List.setIfInBounds_toArray,List.set])|(refine gex_quiet (v:= ?_) rfl rfl (by rfl) ?_ ?_;rotate_left;(intro W hW;go_simp);(try with_reducible rfl);simp only [Act.put,List.setIfInBounds_toArray,List.set]))
     refine gex_loud rfl rfl (by rfl) (fun K hK=> ?_);go_wp2_with fail
     refine (vnamed_any _ _).mono ?_
     rintro e w1 ⟨rfl,rfl⟩
     rw [e1]
     go_wp2_with fail
     refine hK _ _ (Below.refl _ _) ?_
     clear hK K
     repeat (first|(refine gex_skip rfl (by rfl) ?_;simp only [Act.put,List.setIfInBounds_toArray,List.set])|(refine gex_quiet (v:= ?_) rfl rfl (by rfl) ?_ ?_;rotate_left;(intro W hW;go_simp);(try with_reducible rfl);simp only [Act.put,List.setIfInBounds_toArray,List.set]))
     refine gex_loud rfl rfl (by rfl) (fun K hK=> ?_);go_wp2_with fail
     refine (vnamed_any _ _).mono ?_
     rintro e w1 ⟨rfl,rfl⟩
     rw [e2]
     go_wp2_with fail
     refine hK _ _ (Below.refl _ _) ?_
     clear hK K
     repeat (first|(refine gex_skip rfl (by rfl) ?_;simp only [Act.put,List.setIfInBounds_toArray,List.set])|(refine gex_quiet (v:= ?_) rfl rfl (by rfl) ?_ ?_;rotate_left;(intro W hW;go_simp);(try with_reducible rfl);simp only [Act.put,List.setIfInBounds_toArray,List.set]))
     refine gex_nil ?_
     go_wp2_with fail
     go_ret
     exact ⟨rfl,(Below.refl _ _).drew⟩
    have t3:decide ((q0:Int)≤60)=true:=by simp;omega
    rw [decide_eq_true g3,Bool.true_and]
    clear g3
    by_cases g4:q1≤60
    rotate_left 1
    ·have t4:decide ((q1:Int)≤60)=false:=by simp;omega
     rw [decide_eq_false g4,Bool.false_and]
     clear g4
     go_enter Tryz.func91,Tryz.ntmps91
     go_wp2_with fail
     refine wp_region_g (0::1::2::3::4::5::6::7::8::9::10::11::12::13::14::15::16::17::18::19::20::21::22::23::24::25::26::27::28::29::30::31::32::33::34::35::36::37::38::39::40::41::42::43::44::45::46::47::48::49::50::51::52::53::54::55::56::57::58::59::60::61::62::63::64::65::66::67::68::69::70::71::72::73::74::75::76::77::78::[]) (by kernel_rfl) (by kernel_rfl) (fun c a d v w h=>by cases d<;>exact h) ?_
     repeat (first|(refine gex_skip rfl (by rfl) ?_;simp only [Act.put,List.setIfInBounds_toArray,List.set])|(refine gex_quiet (v:= ?_) rfl rfl (by rfl) ?_ ?_;rotate_left;(intro W hW;go_simp);(try with_reducible rfl);simp only [Act.put,List.setIfInBounds_toArray,List.set]))
     refine gex_loud rfl rfl (by rfl) (fun K hK=> ?_);go_wp2_with fail
     refine (vnamed_any _ _).mono ?_
     rintro e w1 ⟨rfl,rfl⟩
     rw [e1]
     go_wp2_with fail
     refine hK _ _ (Below.refl _ _) ?_
     clear hK K
     repeat (first|(refine gex_skip rfl (by rfl) ?_;simp only [Act.put,List.setIfInBounds_toArray,List.set])|(refine gex_quiet (v:= ?_) rfl rfl (by rfl) ?_ ?_;rotate_left;(intro W hW;go_simp);(try with_reducible rfl);simp only [Act.put,List.setIfInBounds_toArray,List.set]))
     refine gex_loud rfl rfl (by rfl) (fun K hK=> ?_);go_wp2_with fail
     refine (vnamed_any _ _).mono ?_
     rintro e w1 ⟨rfl,rfl⟩
     rw [e2]
     go_wp2_with fail
     refine hK _ _ (Below.refl _ _) ?_
     clear hK K
     repeat (first|(refine gex_skip rfl (by rfl) ?_;simp only [Act.put,List.setIfInBounds_toArray,List.set])|(refine gex_quiet (v:= ?_) rfl rfl (by rfl) ?_ ?_;rotate_left;(intro W hW;go_simp);(try with_reducible rfl);simp only [Act.put,List.setIfInBounds_toArray,List.set]))
     refine gex_nil ?_
     go_wp2_with fail
     go_ret
     exact ⟨rfl,(Below.refl _ _).drew⟩
    have t4:decide ((q1:Int)≤60)=true:=by simp;omega
    rw [decide_eq_true g4,Bool.true_and]
    clear g4
    by_cases g5:q2≤256
    rotate_left 1
    ·have t5:decide ((q2:Int)≤256)=false:=by simp;omega
     rw [decide_eq_false g5,Bool.false_and]
     clear g5
     go_enter Tryz.func91,Tryz.ntmps91
     go_wp2_with fail
     refine wp_region_g (0::1::2::3::4::5::6::7::8::9::10::11::12::13::14::15::16::17::18::19::20::21::22::23::24::25::26::27::28::29::30::31::32::33::34::35::36::37::38::39::40::41::42::43::44::45::46::47::48::49::50::51::52::53::54::55::56::57::58::59::60::61::62::63::64::65::66::67::68::69::70::71::72::73::74::75::76::77::78::[]) (by kernel_rfl) (by kernel_rfl) (fun c a d v w h=>by cases d<;>exact h) ?_
     repeat (first|(refine gex_skip rfl (by rfl) ?_;simp only [Act.put,List.setIfInBounds_toArray,List.set])|(refine gex_quiet (v:= ?_) rfl rfl (by rfl) ?_ ?_;rotate_left;(intro W hW;go_simp);(try with_reducible rfl);simp only [Act.put,List.setIfInBounds_toArray,List.set]))
     refine gex_loud rfl rfl (by rfl) (fun K hK=> ?_);go_wp2_with fail
     refine (vnamed_any _ _).mono ?_
     rintro e w1 ⟨rfl,rfl⟩
     rw [e1]
     go_wp2_with fail
     refine hK _ _ (Below.refl _ _) ?_
     clear hK K
     repeat (first|(refine gex_skip rfl (by rfl) ?_;simp only [Act.put,List.setIfInBounds_toArray,List.set])|(refine gex_quiet (v:= ?_) rfl rfl (by rfl) ?_ ?_;rotate_left;(intro W hW;go_simp);(try with_reducible rfl);simp only [Act.put,List.setIfInBounds_toArray,List.set]))
     refine gex_loud rfl rfl (by rfl) (fun K hK=> ?_);go_wp2_with fail
     refine (vnamed_any _ _).mono ?_
     rintro e w1 ⟨rfl,rfl⟩
     rw [e2]
     go_wp2_with fail
     refine hK _ _ (Below.refl _ _) ?_
     clear hK K
     repeat (first|(refine gex_skip rfl (by rfl) ?_;simp only [Act.put,List.setIfInBounds_toArray,List.set])|(refine gex_quiet (v:= ?_) rfl rfl (by rfl) ?_ ?_;rotate_left;(intro W hW;go_simp);(try with_reducible rfl);simp only [Act.put,List.setIfInBounds_toArray,List.set]))
     refine gex_nil ?_
     go_wp2_with fail
     go_ret
     exact ⟨rfl,(Below.refl _ _).drew⟩
    have t5:decide ((q2:Int)≤256)=true:=by simp;omega
    rw [decide_eq_true g5,Bool.true_and]
    clear g5
    by_cases g6:op=0
    rotate_left 1
    ·have t6:(op==0)=false:=by simp;omega
     rw [decide_eq_false g6,Bool.false_and]
     clear g6
     go_enter Tryz.func91,Tryz.ntmps91
     go_wp2_with fail
     refine wp_region_g (0::1::2::3::4::5::6::7::8::9::10::11::12::13::14::15::16::17::18::19::20::21::22::23::24::25::26::27::28::29::30::31::32::33::34::35::36::37::38::39::40::41::42::43::44::45::46::47::48::49::50::51::52::53::54::55::56::57::58::59::60::61::62::63::64::65::66::67::68::69::70::71::72::73::74::75::76::77::78::[]) (by kernel_rfl) (by kernel_rfl) (fun c a d v w h=>by cases d<;>exact h) ?_
     repeat (first|(refine gex_skip rfl (by rfl) ?_;simp only [Act.put,List.setIfInBounds_toArray,List.set])|(refine gex_quiet (v:= ?_) rfl rfl (by rfl) ?_ ?_;rotate_left;(intro W hW;go_simp);(try with_reducible rfl);simp only [Act.put,List.setIfInBounds_toArray,List.set]))
     refine gex_loud rfl rfl (by rfl) (fun K hK=> ?_);go_wp2_with fail
     refine (vnamed_any _ _).mono ?_
     rintro e w1 ⟨rfl,rfl⟩
     rw [e1]
     go_wp2_with fail
     refine hK _ _ (Below.refl _ _) ?_
     clear hK K
     repeat (first|(refine gex_skip rfl (by rfl) ?_;simp only [Act.put,List.setIfInBounds_toArray,List.set])|(refine gex_quiet (v:= ?_) rfl rfl (by rfl) ?_ ?_;rotate_left;(intro W hW;go_simp);(try with_reducible rfl);simp only [Act.put,List.setIfInBounds_toArray,List.set]))
     refine gex_loud rfl rfl (by rfl) (fun K hK=> ?_);go_wp2_with fail
     refine (vnamed_any _ _).mono ?_
     rintro e w1 ⟨rfl,rfl⟩
     rw [e2]
     go_wp2_with fail
     refine hK _ _ (Below.refl _ _) ?_
     clear hK K
     repeat (first|(refine gex_skip rfl (by rfl) ?_;simp only [Act.put,List.setIfInBounds_toArray,List.set])|(refine gex_quiet (v:= ?_) rfl rfl (by rfl) ?_ ?_;rotate_left;(intro W hW;go_simp);(try with_reducible rfl);simp only [Act.put,List.setIfInBounds_toArray,List.set]))
     refine gex_nil ?_
     go_wp2_with fail
     go_ret
     exact ⟨rfl,(Below.refl _ _).drew⟩
    have t6:(op==0)=true:=by simp;omega
    rw [decide_eq_true g6,Bool.true_and]
    clear g6
    by_cases g7:side=0
    rotate_left 1
    ·have t7:(side==0)=false:=by simp;omega
     rw [decide_eq_false g7,Bool.false_and]
     clear g7
     go_enter Tryz.func91,Tryz.ntmps91
     go_wp2_with fail
     refine wp_region_g (0::1::2::3::4::5::6::7::8::9::10::11::12::13::14::15::16::17::18::19::20::21::22::23::24::25::26::27::28::29::30::31::32::33::34::35::36::37::38::39::40::41::42::43::44::45::46::47::48::49::50::51::52::53::54::55::56::57::58::59::60::61::62::63::64::65::66::67::68::69::70::71::72::73::74::75::76::77::78::[]) (by kernel_rfl) (by kernel_rfl) (fun c a d v w h=>by cases d<;>exact h) ?_
     repeat (first|(refine gex_skip rfl (by rfl) ?_;simp only [Act.put,List.setIfInBounds_toArray,List.set])|(refine gex_quiet (v:= ?_) rfl rfl (by rfl) ?_ ?_;rotate_left;(intro W hW;go_simp);(try with_reducible rfl);simp only [Act.put,List.setIfInBounds_toArray,List.set]))
     refine gex_loud rfl rfl (by rfl) (fun K hK=> ?_);go_wp2_with fail
     refine (vnamed_any _ _).mono ?_
     rintro e w1 ⟨rfl,rfl⟩
     rw [e1]
     go_wp2_with fail
     refine hK _ _ (Below.refl _ _) ?_
     clear hK K
     repeat (first|(refine gex_skip rfl (by rfl) ?_;simp only [Act.put,List.setIfInBounds_toArray,List.set])|(refine gex_quiet (v:= ?_) rfl rfl (by rfl) ?_ ?_;rotate_left;(intro W hW;go_simp);(try with_reducible rfl);simp only [Act.put,List.setIfInBounds_toArray,List.set]))
     refine gex_loud rfl rfl (by rfl) (fun K hK=> ?_);go_wp2_with fail
     refine (vnamed_any _ _).mono ?_
     rintro e w1 ⟨rfl,rfl⟩
     rw [e2]
     go_wp2_with fail
     refine hK _ _ (Below.refl _ _) ?_
     clear hK K
     repeat (first|(refine gex_skip rfl (by rfl) ?_;simp only [Act.put,List.setIfInBounds_toArray,List.set])|(refine gex_quiet (v:= ?_) rfl rfl (by rfl) ?_ ?_;rotate_left;(intro W hW;go_simp);(try with_reducible rfl);simp only [Act.put,List.setIfInBounds_toArray,List.set]))
     refine gex_nil ?_
     go_wp2_with fail
     go_ret
     exact ⟨rfl,(Below.refl _ _).drew⟩
    have t7:(side==0)=true:=by simp;omega
    rw [decide_eq_true g7,Bool.true_and]
    clear g7
    by_cases g8:place=0
    rotate_left 1
    ·have t8:(place==0)=false:=by simp;omega
     rw [decide_eq_false g8,Bool.false_and]
     clear g8
     go_enter Tryz.func91,Tryz.ntmps91
     go_wp2_with fail
     refine wp_region_g (0::1::2::3::4::5::6::7::8::9::10::11::12::13::14::15::16::17::18::19::20::21::22::23::24::25::26::27::28::29::30::31::32::33::34::35::36::37::38::39::40::41::42::43::44::45::46::47::48::49::50::51::52::53::54::55::56::57::58::59::60::61::62::63::64::65::66::67::68::69::70::71::72::73::74::75::76::77::78::[]) (by kernel_rfl) (by kernel_rfl) (fun c a d v w h=>by cases d<;>exact h) ?_
     repeat (first|(refine gex_skip rfl (by rfl) ?_;simp only [Act.put,List.setIfInBounds_toArray,List.set])|(refine gex_quiet (v:= ?_) rfl rfl (by rfl) ?_ ?_;rotate_left;(intro W hW;go_simp);(try with_reducible rfl);simp only [Act.put,List.setIfInBounds_toArray,List.set]))
     refine gex_loud rfl rfl (by rfl) (fun K hK=> ?_);go_wp2_with fail
     refine (vnamed_any _ _).mono ?_
     rintro e w1 ⟨rfl,rfl⟩
     rw [e1]
     go_wp2_with fail
     refine hK _ _ (Below.refl _ _) ?_
     clear hK K
     repeat (first|(refine gex_skip rfl (by rfl) ?_;simp only [Act.put,List.setIfInBounds_toArray,List.set])|(refine gex_quiet (v:= ?_) rfl rfl (by rfl) ?_ ?_;rotate_left;(intro W hW;go_simp);(try with_reducible rfl);simp only [Act.put,List.setIfInBounds_toArray,List.set]))
     refine gex_loud rfl rfl (by rfl) (fun K hK=> ?_);go_wp2_with fail
     refine (vnamed_any _ _).mono ?_
     rintro e w1 ⟨rfl,rfl⟩
     rw [e2]
     go_wp2_with fail
     refine hK _ _ (Below.refl _ _) ?_
     clear hK K
     repeat (first|(refine gex_skip rfl (by rfl) ?_;simp only [Act.put,List.setIfInBounds_toArray,List.set])|(refine gex_quiet (v:= ?_) rfl rfl (by rfl) ?_ ?_;rotate_left;(intro W hW;go_simp);(try with_reducible rfl);simp only [Act.put,List.setIfInBounds_toArray,List.set]))
     refine gex_nil ?_
     go_wp2_with fail
     go_ret
     exact ⟨rfl,(Below.refl _ _).drew⟩
    have t8:(place==0)=true:=by simp;omega
    rw [decide_eq_true g8,Bool.true_and]
    clear g8
    by_cases g9:target=0
    rotate_left 1
    ·have t9:(target==0)=false:=by simp;omega
     rw [decide_eq_false g9,Bool.false_and]
     clear g9
     go_enter Tryz.func91,Tryz.ntmps91
     go_wp2_with fail
     refine wp_region_g (0::1::2::3::4::5::6::7::8::9::10::11::12::13::14::15::16::17::18::19::20::21::22::23::24::25::26::27::28::29::30::31::32::33::34::35::36::37::38::39::40::41::42::43::44::45::46::47::48::49::50::51::52::53::54::55::56::57::58::59::60::61::62::63::64::65::66::67::68::69::70::71::72::73::74::75::76::77::78::[]) (by kernel_rfl) (by kernel_rfl) (fun c a d v w h=>by cases d<;>exact h) ?_
     repeat (first|(refine gex_skip rfl (by rfl) ?_;simp only [Act.put,List.setIfInBounds_toArray,List.set])|(refine gex_quiet (v:= ?_) rfl rfl (by rfl) ?_ ?_;rotate_left;(intro W hW;go_simp);(try with_reducible rfl);simp only [Act.put,List.setIfInBounds_toArray,List.set]))
     refine gex_loud rfl rfl (by rfl) (fun K hK=> ?_);go_wp2_with fail
     refine (vnamed_any _ _).mono ?_
     rintro e w1 ⟨rfl,rfl⟩
     rw [e1]
     go_wp2_with fail
     refine hK _ _ (Below.refl _ _) ?_
     clear hK K
     repeat (first|(refine gex_skip rfl (by rfl) ?_;simp only [Act.put,List.setIfInBounds_toArray,List.set])|(refine gex_quiet (v:= ?_) rfl rfl (by rfl) ?_ ?_;rotate_left;(intro W hW;go_simp);(try with_reducible rfl);simp only [Act.put,List.setIfInBounds_toArray,List.set]))
     refine gex_loud rfl rfl (by rfl) (fun K hK=> ?_);go_wp2_with fail
     refine (vnamed_any _ _).mono ?_
     rintro e w1 ⟨rfl,rfl⟩
     rw [e2]
     go_wp2_with fail
     refine hK _ _ (Below.refl _ _) ?_
     clear hK K
     repeat (first|(refine gex_skip rfl (by rfl) ?_;simp only [Act.put,List.setIfInBounds_toArray,List.set])|(refine gex_quiet (v:= ?_) rfl rfl (by rfl) ?_ ?_;rotate_left;(intro W hW;go_simp);(try with_reducible rfl);simp only [Act.put,List.setIfInBounds_toArray,List.set]))
     refine gex_nil ?_
     go_wp2_with fail
     go_ret
     exact ⟨rfl,(Below.refl _ _).drew⟩
    have t9:(target==0)=true:=by simp;omega
    rw [decide_eq_true g9,Bool.true_and]
    clear g9
    have t11:IntKind.i64.wrap ((q3:Int)+(q4:Int))=(q3:Int)+(q4:Int):=by rw [IntKind.wrap_i64];omega
    have t12:((q3:Int)+(q4:Int)==0)=decide (q3+q4=0):=by
     rw [Bool.eq_iff_iff,beq_iff_eq,decide_eq_true_iff];omega
    have t14:(decide (q3=0)&&decide (q4=0))=decide (q3+q4=0):=by
     rw [Bool.eq_iff_iff];simp;try omega
    have T14:=Lib.hid t14
    clear t14
    clear z3 z4
    go_enter Tryz.func91,Tryz.ntmps91
    go_wp2_with fail
    refine wp_region_g (0::1::2::3::4::5::6::7::8::9::10::11::12::13::14::15::16::17::18::19::20::21::22::23::24::25::26::27::28::29::30::31::32::33::34::35::36::37::38::39::40::41::42::43::44::45::46::47::48::49::50::51::52::53::54::55::56::57::58::59::60::61::62::63::64::65::66::67::68::69::70::71::72::73::74::75::76::77::78::[]) (by kernel_rfl) (by kernel_rfl) (fun c a d v w h=>by cases d<;>exact h) ?_
    repeat (first|(refine gex_skip rfl (by rfl) ?_;simp only [Act.put,List.setIfInBounds_toArray,List.set])|(refine gex_quiet (v:= ?_) rfl rfl (by rfl) ?_ ?_;rotate_left;(intro W hW;go_simp);(try with_reducible rfl);simp only [Act.put,List.setIfInBounds_toArray,List.set]))
    refine gex_loud rfl rfl (by rfl) (fun K hK=> ?_);go_wp2_with fail
    refine (vnamed_any _ _).mono ?_
    rintro e w1 ⟨rfl,rfl⟩
    rw [e1]
    go_wp2_with fail
    refine hK _ _ (Below.refl _ _) ?_
    clear hK K
    repeat (first|(refine gex_skip rfl (by rfl) ?_;simp only [Act.put,List.setIfInBounds_toArray,List.set])|(refine gex_quiet (v:= ?_) rfl rfl (by rfl) ?_ ?_;rotate_left;(intro W hW;go_simp);(try with_reducible rfl);simp only [Act.put,List.setIfInBounds_toArray,List.set]))
    refine gex_loud rfl rfl (by rfl) (fun K hK=> ?_);go_wp2_with fail
    refine (vnamed_any _ _).mono ?_
    rintro e w1 ⟨rfl,rfl⟩
    rw [e2]
    go_wp2_with fail
    refine hK _ _ (Below.refl _ _) ?_
    clear hK K
    repeat (first|(refine gex_skip rfl (by rfl) ?_;simp only [Act.put,List.setIfInBounds_toArray,List.set])|(refine gex_quiet (v:= ?_) rfl rfl (by rfl) ?_ ?_;rotate_left;(intro W hW;go_simp);(try with_reducible rfl);simp only [Act.put,List.setIfInBounds_toArray,List.set]))
    refine gex_nil ?_
    go_wp2_with fail
    go_ret
    exact ⟨by first|rfl|(rw [←t12];rfl)|(rw [←T14.out];rfl),(Below.refl _ _).drew⟩
 ·have hres:mays ⟨kind,game,table,fmt,n0,n1,d0,d1,dr,⟨op,side,place,target,ids,pairs⟩⟩ 1=true:=by unfold mays;simp [hk]
  rw [hres]
  clear hres
  have t0:(kind !=1)=true:=by simpa using hk
  go_enter Tryz.func91,Tryz.ntmps91
  go_wp2_with fail
  go_ret
  exact ⟨rfl,Below.refl _ _⟩
section
variable (f1 f2 f3:Fn) (c1 c2 c3:Array Value) (W:World)
theorem ixf0:(Instr.index 151 (.agg #[.func f1 #[] c1,.func f2 #[] c2,.func f3 #[] c3]) (.int .i64 0)).run Tryz.prog W= .ok (.func f1 #[] c1) W:=by kernel_rfl
theorem ixf1:(Instr.index 151 (.agg #[.func f1 #[] c1,.func f2 #[] c2,.func f3 #[] c3]) (.int .i64 1)).run Tryz.prog W= .ok (.func f2 #[] c2) W:=by kernel_rfl
theorem ixf2:(Instr.index 151 (.agg #[.func f1 #[] c1,.func f2 #[] c2,.func f3 #[] c3]) (.int .i64 2)).run Tryz.prog W= .ok (.func f3 #[] c3) W:=by kernel_rfl
end
def MayR (w:World) (p:DeedP) (f:Nat) (i:Value) (wr:World):Prop:=
 ∃k:Nat,k+f=3∧i= .int .i64 (k:Int)∧(∀j,j<k→mays p j=true)∧Below w.heap.size w wr
set_option maxHeartbeats 2000000 in
theorem vmay_any (p:DeedP) (h:DeedH) (w:World) (hd:DeedAt w p h):Calls Tryz.prog 32 #[deedVal p h] w fun e w'=>e= .returned (.bool (mayD p))∧Below w.heap.size w w':=by
 have hmf:∀(fn:Fn) (first cap:Array Value) (w:World),(Instr.makeFunc fn first cap).run Tryz.prog w= .ok (.func fn first cap) w:=fun _ _ _ _=>rfl
 have g1:∀args w,(callFunc 90 args).run Tryz.prog w= .ok (.enter 90 args) w:=fun _ _=>rfl
 have g2:∀args w,(callFunc 91 args).run Tryz.prog w= .ok (.enter 91 args) w:=fun _ _=>rfl
 have g3:∀args w,(callFunc 93 args).run Tryz.prog w= .ok (.enter 93 args) w:=fun _ _=>rfl
 have i0:=fun f1 f2 f3 c1 c2 c3 W=>ixf0 f1 f2 f3 c1 c2 c3 W
 have i1:=fun f1 f2 f3 c1 c2 c3 W=>ixf1 f1 f2 f3 c1 c2 c3 W
 have i2:=fun f1 f2 f3 c1 c2 c3 W=>ixf2 f1 f2 f3 c1 c2 c3 W
 rw [deedVal_cells]
 go_enter Tryz.func32,Tryz.ntmps32
 go_upto_region 2 with (fail)
 obtain ⟨X,hX⟩:∃X,X=w.heap.size:=⟨_,rfl⟩
 rw [←hX]
 refine wp_forget (fun W=>Blk W X (deedCells p h).toArray 40∧Blk W (X+1) #[.pointer (some ⟨X,9,none⟩)] 150∧Below w.heap.size w W) ⟨?_,?_,by subst hX;(try unfold Kept);repeat (first|assumption|exact Below.refl _ _|exact below_undrew (Below.refl _ _)|exact Below.mono (by assumption) (by first|(simp;done)|(simp;omega)|omega)|refine below_setRow ?_ (by first|(simp;done)|(simp;omega)|omega) _|refine Below.setCell ?_ (by first|(simp;done)|(simp;omega)|omega) _|refine Below.alloc ?_ (by first|(simp;done)|(simp;omega)|omega) _|refine below_drewN ?_ _|refine Below.drew ?_|refine below_undrew ?_|refine below_step ?_ (by assumption))⟩ ?_
 ·subst hX;exact Blk.new2 w _ _ _
 ·subst hX;exact Blk.new2' w _ _ _
 rintro W1 ⟨hb,hc,hbw⟩
 clear hX
 go_wp2_with fail
 go_loopg [5,11,12,13,14,15,16] 3 (fun f _ i _ _ _ _ _ wr=>MayR W1 p f i wr)
 case atStart=>exact ⟨0,by omega,rfl,fun j hj=>by omega,Below.refl _ _⟩
 case round=>
  obtain ⟨k,hf,rfl,hall,hbk⟩:=hrel
  have HF:=Lib.hid hf
  clear hf
  have hbr:=hb.old hbk
  have hcr:=hc.old hbk
  have hdr:DeedAt wr p h:=(hd.old hbw).old hbk
  by_cases hk:k<3
  ·have h3:k=0∨k=1∨k=2:=by omega
   rcases h3 with rfl|rfl|rfl
   ·have cb:=may1_any X p h wr hbr
    go_wp2_with fail
    refine cb.mono ?_
    rintro e w2 ⟨rfl,rfl⟩
    clear cb
    cases hq:mays p 0 with
    |false=>
     have hm:mayD p=false:=by unfold mayD;rw [hq];simp
     go_wp2_with fail
     go_ret
     exact ⟨by rw [hm];rfl,below_step hbw hbk⟩
    |true=>
     go_wp2_with fail
     go_roundg (gk-1)
     case rel=>
      exact ⟨1,by have:=HF.out;omega,by go_num,fun j hj=>by
       by_cases e:j=0
       ·rw [e];exact hq
       ·exact hall j (by omega),hbk⟩
     case measure=>have:=HF.out;omega
   ·have cb:=may2_any X (X+1) p h wr hbr hcr hdr
    go_wp2_with fail
    refine cb.mono ?_
    rintro e w2 ⟨rfl,hbn⟩
    clear cb
    cases hq:mays p 1 with
    |false=>
     have hm:mayD p=false:=by unfold mayD;rw [hq];simp
     go_wp2_with fail
     go_ret
     exact ⟨by rw [hm];rfl,below_step hbw (below_step hbk hbn)⟩
    |true=>
     go_wp2_with fail
     go_roundg (gk-1)
     case rel=>
      exact ⟨2,by have:=HF.out;omega,by go_num,fun j hj=>by
       by_cases e:j=1
       ·rw [e];exact hq
       ·exact hall j (by omega),(below_step hbk hbn)⟩
     case measure=>have:=HF.out;omega
   ·have cb:=may3_any X p h wr hbr hdr
    go_wp2_with fail
    refine cb.mono ?_
    rintro e w2 ⟨rfl,hbn⟩
    clear cb
    cases hq:mays p 2 with
    |false=>
     have hm:mayD p=false:=by unfold mayD;rw [hq];simp
     go_wp2_with fail
     go_ret
     exact ⟨by rw [hm];rfl,below_step hbw (below_step hbk hbn)⟩
    |true=>
     go_wp2_with fail
     go_roundg (gk-1)
     case rel=>
      exact ⟨3,by have:=HF.out;omega,by go_num,fun j hj=>by
       by_cases e:j=2
       ·rw [e];exact hq
       ·exact hall j (by omega),(below_step hbk hbn)⟩
     case measure=>have:=HF.out;omega
  ·obtain rfl:k=3:=by have:=HF.out;omega
   have hm:mayD p=true:=by unfold mayD;rw [hall 0 (by omega),hall 1 (by omega),hall 2 (by omega)];rfl
   go_wp2_with fail
   go_ret
   exact ⟨by rw [hm];rfl,below_step hbw hbk⟩
end
end Go.Proofs.YtioigihakjlopaaGreat
