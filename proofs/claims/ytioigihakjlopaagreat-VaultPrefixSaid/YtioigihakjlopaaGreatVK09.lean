/- Texts put together and cut to what is used: VMay2, VMay3. -/
import Derived.Test.YtioigihakjlopaaGreatVK08
namespace Go.Proofs.YtioigihakjlopaaGreat
set_option linter.unusedVariables false
set_option linter.unusedSimpArgs false
section
open Go.RowKit
set_option maxRecDepth 20000
set_option maxHeartbeats 4000000 in
set_option maxRecDepth 100000 in
theorem may2_any (b c:Nat) (p:DeedP) (h:DeedH) (w:World) (hb:Blk w b (deedCells p h).toArray 40) (hc:Blk w c #[.pointer (some ⟨b,9,none⟩)] 150) (hd:DeedAt w p h):Calls Tryz.prog 91 #[.pointer (some ⟨b,0,none⟩),.pointer (some ⟨c,0,none⟩)] w fun e w'=>e= .returned (.bool (mays p 1))∧Below w.heap.size w w':=by
 have a0:∀W,Old w.drew W→W.cell? ⟨c,0,none⟩=some (.pointer (some ⟨b,9,none⟩)):=fun W hW=>(hc.drew.old hW).cell rfl
 have k0:w.cell? ⟨b,0,none⟩=some (.int .i8 p.kind):=hb.cell rfl
 have a3:∀W,Old w.drew W→W.cell? ⟨b,3,none⟩=some (.string p.fmt):=fun W hW=>(hb.drew.old hW).cell rfl
 have a4:∀W,Old w.drew W→W.cell? ⟨b,4,none⟩=some (.string p.n0):=fun W hW=>(hb.drew.old hW).cell rfl
 have a5:∀W,Old w.drew W→W.cell? ⟨b,5,none⟩=some (.string p.n1):=fun W hW=>(hb.drew.old hW).cell rfl
 have a6:∀W,Old w.drew W→W.cell? ⟨b,6,none⟩=some (.slice h.d0.a h.d0.n h.d0.c):=fun W hW=>(hb.drew.old hW).cell rfl
 have a7:∀W,Old w.drew W→W.cell? ⟨b,7,none⟩=some (.slice h.d1.a h.d1.n h.d1.c):=fun W hW=>(hb.drew.old hW).cell rfl
 have a8:∀W,Old w.drew W→W.cell? ⟨b,8,none⟩=some (.slice h.dr.a h.dr.n h.dr.c):=fun W hW=>(hb.drew.old hW).cell rfl
 have a9:∀W,Old w.drew W→W.cell? ⟨b,9,none⟩=some (.int .i8 p.act.op):=fun W hW=>(hb.drew.old hW).cell rfl
 have a10:∀W,Old w.drew W→W.cell? ⟨b,10,none⟩=some (.int .i64 p.act.side):=fun W hW=>(hb.drew.old hW).cell rfl
 have a11:∀W,Old w.drew W→W.cell? ⟨b,11,none⟩=some (.int .i64 p.act.place):=fun W hW=>(hb.drew.old hW).cell rfl
 have a12:∀W,Old w.drew W→W.cell? ⟨b,12,none⟩=some (.int .i64 p.act.target):=fun W hW=>(hb.drew.old hW).cell rfl
 have a13:∀W,Old w.drew W→W.cell? ⟨b,13,none⟩=some (.slice h.act.ids.a h.act.ids.n h.act.ids.c):=fun W hW=>(hb.drew.old hW).cell rfl
 have a14:∀W,Old w.drew W→W.cell? ⟨b,14,none⟩=some (.slice h.act.pairs.a h.act.pairs.n h.act.pairs.c):=fun W hW=>(hb.drew.old hW).cell rfl
 have l0:=hd.d0.2.1
 have l1:=hd.d1.2.1
 have l2:=hd.dr.2.1
 have l3:=hd.act.ids.2.1
 have l4:=hd.act.pairs.2.1
 have z3:=hd.act.ids.2.2.2.2.1
 have z4:=hd.act.pairs.2.2.2.2.1
 obtain ⟨kind,game,table,fmt,n0,n1,d0,d1,dr,op,side,place,target,ids,pairs⟩:=p
 obtain ⟨⟨q0a,q0,q0c⟩,⟨q1a,q1,q1c⟩,⟨q2a,q2,q2c⟩,⟨q3a,q3,q3c⟩,⟨q4a,q4,q4c⟩⟩:=h
 dsimp only at*
 clear hb hc hd
 by_cases hk:kind=1
 ·subst hk
  have hres:mays ⟨1,game,table,fmt,n0,n1,d0,d1,dr,⟨op,side,place,target,ids,pairs⟩⟩ 1=(decide (fmt.size≤40)&&(okName n0&&(okName n1&&(decide (q0≤60)&&(decide (q1≤60)&&(decide (q2≤256)&&(decide (op=0)&&(decide (side=0)&&(decide (place=0)&&(decide (target=0)&&decide (q3+q4=0))))))))))):=by
   rw [←l0,←l1,←l2,←l3,←l4];rfl
  rw [hres]
  clear hres l0 l1 l2 l3 l4
  generalize e1:okName n0=o1
  generalize e2:okName n1=o2
  by_cases g0:fmt.size≤40
  rotate_left 1
  ·have t0:decide ((fmt.size:Int)≤40)=false:=by simp;omega
   rw [decide_eq_false g0,Bool.false_and]
   clear g0
   go_enter Tryz.func91,Tryz.ntmps91
   go_wp2_with fail
   refine wp_region_g (0::1::2::3::4::5::6::7::8::9::10::11::12::13::14::15::16::17::18::19::20::21::22::23::24::25::26::27::28::29::30::31::32::33::34::35::36::37::38::39::40::41::42::43::44::45::46::47::48::49::50::51::52::53::54::55::56::57::58::59::60::61::62::63::64::65::66::67::68::69::70::71::72::73::74::75::76::77::78::[]) (by kernel_rfl) (by kernel_rfl) (fun c a d v w h=>by cases d<;>exact h) ?_
   repeat (first|(refine gex_skip rfl (by rfl) ?_;simp only [Act.put,List.setIfInBounds_toArray,List.set])|(refine gex_quiet (v:= ?_) rfl rfl (by rfl) ?_ ?_;rotate_left;(intro W hW;go_simp);(try with_reducible rfl);simp only [Act.put,List.setIfInBounds_toArray,List.set]))
   refine gex_nil ?_
   go_wp2_with fail
   go_ret
   exact ⟨rfl,(Below.refl _ _).drew⟩
  have t0:decide ((fmt.size:Int)≤40)=true:=by simp;omega
  rw [decide_eq_true g0,Bool.true_and]
  clear g0
  cases o1 with
  |false=>
   simp only [Bool.false_and,Bool.and_false]
   go_enter Tryz.func91,Tryz.ntmps91
   go_wp2_with fail
   refine wp_region_g (0::1::2::3::4::5::6::7::8::9::10::11::12::13::14::15::16::17::18::19::20::21::22::23::24::25::26::27::28::29::30::31::32::33::34::35::36::37::38::39::40::41::42::43::44::45::46::47::48::49::50::51::52::53::54::55::56::57::58::59::60::61::62::63::64::65::66::67::68::69::70::71::72::73::74::75::76::77::78::[]) (by kernel_rfl) (by kernel_rfl) (fun c a d v w h=>by cases d<;>exact h) ?_
   repeat (first|(refine gex_skip rfl (by rfl) ?_;simp only [Act.put,List.setIfInBounds_toArray,List.set])|(refine gex_quiet (v:= ?_) rfl rfl (by rfl) ?_ ?_;rotate_left;(intro W hW;go_simp);(try with_reducible rfl);simp only [Act.put,List.setIfInBounds_toArray,List.set]))
   refine gex_loud rfl rfl (by rfl) (fun K hK=> ?_);go_wp2_with fail
   refine (vnamed_any _ _).mono ?_
   rintro e w1 ⟨rfl,rfl⟩
   rw [e1]
   go_wp2_with fail
   refine hK _ _ (Below.refl _ _) ?_
   clear hK K
   repeat (first|(refine gex_skip rfl (by rfl) ?_;simp only [Act.put,List.setIfInBounds_toArray,List.set])|(refine gex_quiet (v:= ?_) rfl rfl (by rfl) ?_ ?_;rotate_left;(intro W hW;go_simp);(try with_reducible rfl);simp only [Act.put,List.setIfInBounds_toArray,List.set]))
   refine gex_nil ?_
   go_wp2_with fail
   go_ret
   exact ⟨rfl,(Below.refl _ _).drew⟩
  |true=>
   simp only [Bool.true_and]
   cases o2 with
   |false=>
    simp only [Bool.false_and,Bool.and_false]
    go_enter Tryz.func91,Tryz.ntmps91
    go_wp2_with fail
    refine wp_region_g (0::1::2::3::4::5::6::7::8::9::10::11::12::13::14::15::16::17::18::19::20::21::22::23::24::25::26::27::28::29::30::31::32::33::34::35::36::37::38::39::40::41::42::43::44::45::46::47::48::49::50::51::52::53::54::55::56::57::58::59::60::61::62::63::64::65::66::67::68::69::70::71::72::73::74::75::76::77::78::[]) (by kernel_rfl) (by kernel_rfl) (fun c a d v w h=>by cases d<;>exact h) ?_
    repeat (first|(refine gex_skip rfl (by rfl) ?_;simp only [Act.put,List.setIfInBounds_toArray,List.set])|(refine gex_quiet (v:= ?_) rfl rfl (by rfl) ?_ ?_;rotate_left;(intro W hW;go_simp);(try with_reducible rfl);simp only [Act.put,List.setIfInBounds_toArray,List.set]))
    refine gex_loud rfl rfl (by rfl) (fun K hK=> ?_);go_wp2_with fail
    refine (vnamed_any _ _).mono ?_
    rintro e w1 ⟨rfl,rfl⟩
    rw [e1]
    go_wp2_with fail
    refine hK _ _ (Below.refl _ _) ?_
    clear hK K
    repeat (first|(refine gex_skip rfl (by rfl) ?_;simp only [Act.put,List.setIfInBounds_toArray,List.set])|(refine gex_quiet (v:= ?_) rfl rfl (by rfl) ?_ ?_;rotate_left;(intro W hW;go_simp);(try with_reducible rfl);simp only [Act.put,List.setIfInBounds_toArray,List.set]))
    refine gex_loud rfl rfl (by rfl) (fun K hK=> ?_);go_wp2_with fail
    refine (vnamed_any _ _).mono ?_
    rintro e w1 ⟨rfl,rfl⟩
    rw [e2]
    go_wp2_with fail
    refine hK _ _ (Below.refl _ _) ?_
    clear hK K
    repeat (first|(refine gex_skip rfl (by rfl) ?_;simp only [Act.put,List.setIfInBounds_toArray,List.set])|(refine gex_quiet (v:= ?_) rfl rfl (by rfl) ?_ ?_;rotate_left;(intro W hW;go_simp);(try with_reducible rfl);simp only [Act.put,List.setIfInBounds_toArray,List.set]))
    refine gex_nil ?_
    go_wp2_with fail
    go_ret
    exact ⟨rfl,(Below.refl _ _).drew⟩
   |true=>
    simp only [Bool.true_and]
    by_cases g3:q0≤60
    rotate_left 1
    ·have t3:decide ((q0:Int)≤60)=false:=by simp;omega
     rw [decide_eq_false g3,Bool.false_and]
     clear g3
     go_enter Tryz.func91,Tryz.ntmps91
     go_wp2_with fail
     refine wp_region_g (0::1::2::3::4::5::6::7::8::9::10::11::12::13::14::15::16::17::18::19::20::21::22::23::24::25::26::27::28::29::30::31::32::33::34::35::36::37::38::39::40::41::42::43::44::45::46::47::48::49::50::51::52::53::54::55::56::57::58::59::60::61::62::63::64::65::66::67::68::69::70::71::72::73::74::75::76::77::78::[]) (by kernel_rfl) (by kernel_rfl) (fun c a d v w h=>by cases d<;>exact h) ?_
     repeat (first|(refine gex_skip rfl (by rfl) ?_;simp only [Act.put,List.setIfInBounds_toArray,List.set])|(refine gex_quiet (v:= ?_) rfl rfl (by rfl) ?_ ?_;rotate_left;(intro W hW;go_simp);(try with_reducible rfl);simp only [Act.put,List.setIfInBounds_toArray,List.set]))
     refine gex_loud rfl rfl (by rfl) (fun K hK=> ?_);go_wp2_with fail
     refine (vnamed_any _ _).mono ?_
     rintro e w1 ⟨rfl,rfl⟩
     rw [e1]
     go_wp2_with fail
     refine hK _ _ (Below.refl _ _) ?_
     clear hK K
     repeat (first|(refine gex_skip rfl (by rfl) ?_;simp only [Act.put,List.setIfInBounds_toArray,List.set])|(refine gex_quiet (v:= ?_) rfl rfl (by rfl) ?_ ?_;rotate_left;(intro W hW;go_simp);(try with_reducible rfl);simp only [Act.put,List.setIfInBounds_toArray,List.set]))
     refine gex_loud rfl rfl (by rfl) (fun K hK=> ?_);go_wp2_with fail
     refine (vnamed_any _ _).mono ?_
     rintro e w1 ⟨rfl,rfl⟩
     rw [e2]
     go_wp2_with fail
     refine hK _ _ (Below.refl _ _) ?_
     clear hK K
     repeat (first|(refine gex_skip rfl (by rfl) ?_;simp only [Act.put,List.setIfInBounds_toArray,List.set])|(refine gex_quiet (v:= ?_) rfl rfl (by rfl) ?_ ?_;rotate_left;(intro W hW;go_simp);(try with_reducible rfl);simp only [Act.put,List.setIfInBounds_toArray,List.set]))
     refine gex_nil ?_
     go_wp2_with fail
     go_ret
     exact ⟨rfl,(Below.refl _ _).drew⟩
    have t3:decide ((q0:Int)≤60)=true:=by simp;omega
    rw [decide_eq_true g3,Bool.true_and]
    clear g3
    by_cases g4:q1≤60
    rotate_left 1
    ·have t4:decide ((q1:Int)≤60)=false:=by simp;omega
     rw [decide_eq_false g4,Bool.false_and]
     clear g4
     go_enter Tryz.func91,Tryz.ntmps91
     go_wp2_with fail
     refine wp_region_g (0::1::2::3::4::5::6::7::8::9::10::11::12::13::14::15::16::17::18::19::20::21::22::23::24::25::26::27::28::29::30::31::32::33::34::35::36::37::38::39::40::41::42::43::44::45::46::47::48::49::50::51::52::53::54::55::56::57::58::59::60::61::62::63::64::65::66::67::68::69::70::71::72::73::74::75::76::77::78::[]) (by kernel_rfl) (by kernel_rfl) (fun c a d v w h=>by cases d<;>exact h) ?_
     repeat (first|(refine gex_skip rfl (by rfl) ?_;simp only [Act.put,List.setIfInBounds_toArray,List.set])|(refine gex_quiet (v:= ?_) rfl rfl (by rfl) ?_ ?_;rotate_left;(intro W hW;go_simp);(try with_reducible rfl);simp only [Act.put,List.setIfInBounds_toArray,List.set]))
     refine gex_loud rfl rfl (by rfl) (fun K hK=> ?_);go_wp2_with fail
     refine (vnamed_any _ _).mono ?_
     rintro e w1 ⟨rfl,rfl⟩
     rw [e1]
     go_wp2_with fail
     refine hK _ _ (Below.refl _ _) ?_
     clear hK K
     repeat (first|(refine gex_skip rfl (by rfl) ?_;simp only [Act.put,List.setIfInBounds_toArray,List.set])|(refine gex_quiet (v:= ?_) rfl rfl (by rfl) ?_ ?_;rotate_left;(intro W hW;go_simp);(try with_reducible rfl);simp only [Act.put,List.setIfInBounds_toArray,List.set]))
     refine gex_loud rfl rfl (by rfl) (fun K hK=> ?_);go_wp2_with fail
     refine (vnamed_any _ _).mono ?_
     rintro e w1 ⟨rfl,rfl⟩
     rw [e2]
     go_wp2_with fail
     refine hK _ _ (Below.refl _ _) ?_
     clear hK K
     repeat (first|(refine gex_skip rfl (by rfl) ?_;simp only [Act.put,List.setIfInBounds_toArray,List.set])|(refine gex_quiet (v:= ?_) rfl rfl (by rfl) ?_ ?_;rotate_left;(intro W hW;go_simp);(try with_reducible rfl);simp only [Act.put,List.setIfInBounds_toArray,List.set]))
     refine gex_nil ?_
     go_wp2_with fail
     go_ret
     exact ⟨rfl,(Below.refl _ _).drew⟩
    have t4:decide ((q1:Int)≤60)=true:=by simp;omega
    rw [decide_eq_true g4,Bool.true_and]
    clear g4
    by_cases g5:q2≤256
    rotate_left 1
    ·have t5:decide ((q2:Int)≤256)=false:=by simp;omega
     rw [decide_eq_false g5,Bool.false_and]
     clear g5
     go_enter Tryz.func91,Tryz.ntmps91
     go_wp2_with fail
     refine wp_region_g (0::1::2::3::4::5::6::7::8::9::10::11::12::13::14::15::16::17::18::19::20::21::22::23::24::25::26::27::28::29::30::31::32::33::34::35::36::37::38::39::40::41::42::43::44::45::46::47::48::49::50::51::52::53::54::55::56::57::58::59::60::61::62::63::64::65::66::67::68::69::70::71::72::73::74::75::76::77::78::[]) (by kernel_rfl) (by kernel_rfl) (fun c a d v w h=>by cases d<;>exact h) ?_
     repeat (first|(refine gex_skip rfl (by rfl) ?_;simp only [Act.put,List.setIfInBounds_toArray,List.set])|(refine gex_quiet (v:= ?_) rfl rfl (by rfl) ?_ ?_;rotate_left;(intro W hW;go_simp);(try with_reducible rfl);simp only [Act.put,List.setIfInBounds_toArray,List.set]))
     refine gex_loud rfl rfl (by rfl) (fun K hK=> ?_);go_wp2_with fail
     refine (vnamed_any _ _).mono ?_
     rintro e w1 ⟨rfl,rfl⟩
     rw [e1]
     go_wp2_with fail
     refine hK _ _ (Below.refl _ _) ?_
     clear hK K
     repeat (first|(refine gex_skip rfl (by rfl) ?_;simp only [Act.put,List.setIfInBounds_toArray,List.set])|(refine gex_quiet (v:= ?_) rfl rfl (by rfl) ?_ ?_;rotate_left;(intro W hW;go_simp);(try with_reducible rfl);simp only [Act.put,List.setIfInBounds_toArray,List.set]))
     refine gex_loud rfl rfl (by rfl) (fun K hK=> ?_);go_wp2_with fail
     refine (vnamed_any _ _).mono ?_
     rintro e w1 ⟨rfl,rfl⟩
     rw [e2]
     go_wp2_with fail
     refine hK _ _ (Below.refl _ _) ?_
     clear hK K
     repeat (first|(refine gex_skip rfl (by rfl) ?_;simp only [Act.put,List.setIfInBounds_toArray,List.set])|(refine gex_quiet (v:= ?_) rfl rfl (by rfl) ?_ ?_;rotate_left;(intro W hW;go_simp);(try with_reducible rfl);simp only [Act.put,List.setIfInBounds_toArray,List.set]))
     refine gex_nil ?_
     go_wp2_with fail
     go_ret
     exact ⟨rfl,(Below.refl _ _).drew⟩
    have t5:decide ((q2:Int)≤256)=true:=by simp;omega
    rw [decide_eq_true g5,Bool.true_and]
    clear g5
    by_cases g6:op=0
    rotate_left 1
    ·have t6:(op==0)=false:=by simp;omega
     rw [decide_eq_false g6,Bool.false_and]
     clear g6
     go_enter Tryz.func91,Tryz.ntmps91
     go_wp2_with fail
     refine wp_region_g (0::1::2::3::4::5::6::7::8::9::10::11::12::13::14::15::16::17::18::19::20::21::22::23::24::25::26::27::28::29::30::31::32::33::34::35::36::37::38::39::40::41::42::43::44::45::46::47::48::49::50::51::52::53::54::55::56::57::58::59::60::61::62::63::64::65::66::67::68::69::70::71::72::73::74::75::76::77::78::[]) (by kernel_rfl) (by kernel_rfl) (fun c a d v w h=>by cases d<;>exact h) ?_
     repeat (first|(refine gex_skip rfl (by rfl) ?_;simp only [Act.put,List.setIfInBounds_toArray,List.set])|(refine gex_quiet (v:= ?_) rfl rfl (by rfl) ?_ ?_;rotate_left;(intro W hW;go_simp);(try with_reducible rfl);simp only [Act.put,List.setIfInBounds_toArray,List.set]))
     refine gex_loud rfl rfl (by rfl) (fun K hK=> ?_);go_wp2_with fail
     refine (vnamed_any _ _).mono ?_
     rintro e w1 ⟨rfl,rfl⟩
     rw [e1]
     go_wp2_with fail
     refine hK _ _ (Below.refl _ _) ?_
     clear hK K
     repeat (first|(refine gex_skip rfl (by rfl) ?_;simp only [Act.put,List.setIfInBounds_toArray,List.set])|(refine gex_quiet (v:= ?_) rfl rfl (by rfl) ?_ ?_;rotate_left;(intro W hW;go_simp);(try with_reducible rfl);simp only [Act.put,List.setIfInBounds_toArray,List.set]))
     refine gex_loud rfl rfl (by rfl) (fun K hK=> ?_);go_wp2_with fail
     refine (vnamed_any _ _).mono ?_
     rintro e w1 ⟨rfl,rfl⟩
     rw [e2]
     go_wp2_with fail
     refine hK _ _ (Below.refl _ _) ?_
     clear hK K
     repeat (first|(refine gex_skip rfl (by rfl) ?_;simp only [Act.put,List.setIfInBounds_toArray,List.set])|(refine gex_quiet (v:= ?_) rfl rfl (by rfl) ?_ ?_;rotate_left;(intro W hW;go_simp);(try with_reducible rfl);simp only [Act.put,List.setIfInBounds_toArray,List.set]))
     refine gex_nil ?_
     go_wp2_with fail
     go_ret
     exact ⟨rfl,(Below.refl _ _).drew⟩
    have t6:(op==0)=true:=by simp;omega
    rw [decide_eq_true g6,Bool.true_and]
    clear g6
    by_cases g7:side=0
    rotate_left 1
    ·have t7:(side==0)=false:=by simp;omega
     rw [decide_eq_false g7,Bool.false_and]
     clear g7
     go_enter Tryz.func91,Tryz.ntmps91
     go_wp2_with fail
     refine wp_region_g (0::1::2::3::4::5::6::7::8::9::10::11::12::13::14::15::16::17::18::19::20::21::22::23::24::25::26::27::28::29::30::31::32::33::34::35::36::37::38::39::40::41::42::43::44::45::46::47::48::49::50::51::52::53::54::55::56::57::58::59::60::61::62::63::64::65::66::67::68::69::70::71::72::73::74::75::76::77::78::[]) (by kernel_rfl) (by kernel_rfl) (fun c a d v w h=>by cases d<;>exact h) ?_
     repeat (first|(refine gex_skip rfl (by rfl) ?_;simp only [Act.put,List.setIfInBounds_toArray,List.set])|(refine gex_quiet (v:= ?_) rfl rfl (by rfl) ?_ ?_;rotate_left;(intro W hW;go_simp);(try with_reducible rfl);simp only [Act.put,List.setIfInBounds_toArray,List.set]))
     refine gex_loud rfl rfl (by rfl) (fun K hK=> ?_);go_wp2_with fail
     refine (vnamed_any _ _).mono ?_
     rintro e w1 ⟨rfl,rfl⟩
     rw [e1]
     go_wp2_with fail
     refine hK _ _ (Below.refl _ _) ?_
     clear hK K
     repeat (first|(refine gex_skip rfl (by rfl) ?_;simp only [Act.put,List.setIfInBounds_toArray,List.set])|(refine gex_quiet (v:= ?_) rfl rfl (by rfl) ?_ ?_;rotate_left;(intro W hW;go_simp);(try with_reducible rfl);simp only [Act.put,List.setIfInBounds_toArray,List.set]))
     refine gex_loud rfl rfl (by rfl) (fun K hK=> ?_);go_wp2_with fail
     refine (vnamed_any _ _).mono ?_
     rintro e w1 ⟨rfl,rfl⟩
     rw [e2]
     go_wp2_with fail
     refine hK _ _ (Below.refl _ _) ?_
     clear hK K
     repeat (first|(refine gex_skip rfl (by rfl) ?_;simp only [Act.put,List.setIfInBounds_toArray,List.set])|(refine gex_quiet (v:= ?_) rfl rfl (by rfl) ?_ ?_;rotate_left;(intro W hW;go_simp);(try with_reducible rfl);simp only [Act.put,List.setIfInBounds_toArray,List.set]))
     refine gex_nil ?_
     go_wp2_with fail
     go_ret
     exact ⟨rfl,(Below.refl _ _).drew⟩
    have t7:(side==0)=true:=by simp;omega
    rw [decide_eq_true g7,Bool.true_and]
    clear g7
    by_cases g8:place=0
    rotate_left 1
    ·have t8:(place==0)=false:=by simp;omega
     rw [decide_eq_false g8,Bool.false_and]
     clear g8
     go_enter Tryz.func91,Tryz.ntmps91
     go_wp2_with fail
     refine wp_region_g (0::1::2::3::4::5::6::7::8::9::10::11::12::13::14::15::16::17::18::19::20::21::22::23::24::25::26::27::28::29::30::31::32::33::34::35::36::37::38::39::40::41::42::43::44::45::46::47::48::49::50::51::52::53::54::55::56::57::58::59::60::61::62::63::64::65::66::67::68::69::70::71::72::73::74::75::76::77::78::[]) (by kernel_rfl) (by kernel_rfl) (fun c a d v w h=>by cases d<;>exact h) ?_
     repeat (first|(refine gex_skip rfl (by rfl) ?_;simp only [Act.put,List.setIfInBounds_toArray,List.set])|(refine gex_quiet (v:= ?_) rfl rfl (by rfl) ?_ ?_;rotate_left;(intro W hW;go_simp);(try with_reducible rfl);simp only [Act.put,List.setIfInBounds_toArray,List.set]))
     refine gex_loud rfl rfl (by rfl) (fun K hK=> ?_);go_wp2_with fail
     refine (vnamed_any _ _).mono ?_
     rintro e w1 ⟨rfl,rfl⟩
     rw [e1]
     go_wp2_with fail
     refine hK _ _ (Below.refl _ _) ?_
     clear hK K
     repeat (first|(refine gex_skip rfl (by rfl) ?_;simp only [Act.put,List.setIfInBounds_toArray,List.set])|(refine gex_quiet (v:= ?_) rfl rfl (by rfl) ?_ ?_;rotate_left;(intro W hW;go_simp);(try with_reducible rfl);simp only [Act.put,List.setIfInBounds_toArray,List.set]))
     refine gex_loud rfl rfl (by rfl) (fun K hK=> ?_);go_wp2_with fail
     refine (vnamed_any _ _).mono ?_
     rintro e w1 ⟨rfl,rfl⟩
     rw [e2]
     go_wp2_with fail
     refine hK _ _ (Below.refl _ _) ?_
     clear hK K
     repeat (first|(refine gex_skip rfl (by rfl) ?_;simp only [Act.put,List.setIfInBounds_toArray,List.set])|(refine gex_quiet (v:= ?_) rfl rfl (by rfl) ?_ ?_;rotate_left;(intro W hW;go_simp);(try with_reducible rfl);simp only [Act.put,List.setIfInBounds_toArray,List.set]))
     refine gex_nil ?_
     go_wp2_with fail
     go_ret
     exact ⟨rfl,(Below.refl _ _).drew⟩
    have t8:(place==0)=true:=by simp;omega
    rw [decide_eq_true g8,Bool.true_and]
    clear g8
    by_cases g9:target=0
    rotate_left 1
    ·have t9:(target==0)=false:=by simp;omega
     rw [decide_eq_false g9,Bool.false_and]
     clear g9
     go_enter Tryz.func91,Tryz.ntmps91
     go_wp2_with fail
     refine wp_region_g (0::1::2::3::4::5::6::7::8::9::10::11::12::13::14::15::16::17::18::19::20::21::22::23::24::25::26::27::28::29::30::31::32::33::34::35::36::37::38::39::40::41::42::43::44::45::46::47::48::49::50::51::52::53::54::55::56::57::58::59::60::61::62::63::64::65::66::67::68::69::70::71::72::73::74::75::76::77::78::[]) (by kernel_rfl) (by kernel_rfl) (fun c a d v w h=>by cases d<;>exact h) ?_
     repeat (first|(refine gex_skip rfl (by rfl) ?_;simp only [Act.put,List.setIfInBounds_toArray,List.set])|(refine gex_quiet (v:= ?_) rfl rfl (by rfl) ?_ ?_;rotate_left;(intro W hW;go_simp);(try with_reducible rfl);simp only [Act.put,List.setIfInBounds_toArray,List.set]))
     refine gex_loud rfl rfl (by rfl) (fun K hK=> ?_);go_wp2_with fail
     refine (vnamed_any _ _).mono ?_
     rintro e w1 ⟨rfl,rfl⟩
     rw [e1]
     go_wp2_with fail
     refine hK _ _ (Below.refl _ _) ?_
     clear hK K
     repeat (first|(refine gex_skip rfl (by rfl) ?_;simp only [Act.put,List.setIfInBounds_toArray,List.set])|(refine gex_quiet (v:= ?_) rfl rfl (by rfl) ?_ ?_;rotate_left;(intro W hW;go_simp);(try with_reducible rfl);simp only [Act.put,List.setIfInBounds_toArray,List.set]))
     refine gex_loud rfl rfl (by rfl) (fun K hK=> ?_);go_wp2_with fail
     refine (vnamed_any _ _).mono ?_
     rintro e w1 ⟨rfl,rfl⟩
     rw [e2]
     go_wp2_with fail
     refine hK _ _ (Below.refl _ _) ?_
     clear hK K
     repeat (first|(refine gex_skip rfl (by rfl) ?_;simp only [Act.put,List.setIfInBounds_toArray,List.set])|(refine gex_quiet (v:= ?_) rfl rfl (by rfl) ?_ ?_;rotate_left;(intro W hW;go_simp);(try with_reducible rfl);simp only [Act.put,List.setIfInBounds_toArray,List.set]))
     refine gex_nil ?_
     go_wp2_with fail
     go_ret
     exact ⟨rfl,(Below.refl _ _).drew⟩
    have t9:(target==0)=true:=by simp;omega
    rw [decide_eq_true g9,Bool.true_and]
    clear g9
    have t11:IntKind.i64.wrap ((q3:Int)+(q4:Int))=(q3:Int)+(q4:Int):=by rw [IntKind.wrap_i64];omega
    have t12:((q3:Int)+(q4:Int)==0)=decide (q3+q4=0):=by
     rw [Bool.eq_iff_iff,beq_iff_eq,decide_eq_true_iff];omega
    have t14:(decide (q3=0)&&decide (q4=0))=decide (q3+q4=0):=by
     rw [Bool.eq_iff_iff];simp;try omega
    have T14:=Lib.hid t14
    clear t14
    clear z3 z4
    go_enter Tryz.func91,Tryz.ntmps91
    go_wp2_with fail
    refine wp_region_g (0::1::2::3::4::5::6::7::8::9::10::11::12::13::14::15::16::17::18::19::20::21::22::23::24::25::26::27::28::29::30::31::32::33::34::35::36::37::38::39::40::41::42::43::44::45::46::47::48::49::50::51::52::53::54::55::56::57::58::59::60::61::62::63::64::65::66::67::68::69::70::71::72::73::74::75::76::77::78::[]) (by kernel_rfl) (by kernel_rfl) (fun c a d v w h=>by cases d<;>exact h) ?_
    repeat (first|(refine gex_skip rfl (by rfl) ?_;simp only [Act.put,List.setIfInBounds_toArray,List.set])|(refine gex_quiet (v:= ?_) rfl rfl (by rfl) ?_ ?_;rotate_left;(intro W hW;go_simp);(try with_reducible rfl);simp only [Act.put,List.setIfInBounds_toArray,List.set]))
    refine gex_loud rfl rfl (by rfl) (fun K hK=> ?_);go_wp2_with fail
    refine (vnamed_any _ _).mono ?_
    rintro e w1 ⟨rfl,rfl⟩
    rw [e1]
    go_wp2_with fail
    refine hK _ _ (Below.refl _ _) ?_
    clear hK K
    repeat (first|(refine gex_skip rfl (by rfl) ?_;simp only [Act.put,List.setIfInBounds_toArray,List.set])|(refine gex_quiet (v:= ?_) rfl rfl (by rfl) ?_ ?_;rotate_left;(intro W hW;go_simp);(try with_reducible rfl);simp only [Act.put,List.setIfInBounds_toArray,List.set]))
    refine gex_loud rfl rfl (by rfl) (fun K hK=> ?_);go_wp2_with fail
    refine (vnamed_any _ _).mono ?_
    rintro e w1 ⟨rfl,rfl⟩
    rw [e2]
    go_wp2_with fail
    refine hK _ _ (Below.refl _ _) ?_
    clear hK K
    repeat (first|(refine gex_skip rfl (by rfl) ?_;simp only [Act.put,List.setIfInBounds_toArray,List.set])|(refine gex_quiet (v:= ?_) rfl rfl (by rfl) ?_ ?_;rotate_left;(intro W hW;go_simp);(try with_reducible rfl);simp only [Act.put,List.setIfInBounds_toArray,List.set]))
    refine gex_nil ?_
    go_wp2_with fail
    go_ret
    exact ⟨by first|rfl|(rw [←t12];rfl)|(rw [←T14.out];rfl),(Below.refl _ _).drew⟩
 ·have hres:mays ⟨kind,game,table,fmt,n0,n1,d0,d1,dr,⟨op,side,place,target,ids,pairs⟩⟩ 1=true:=by unfold mays;simp [hk]
  rw [hres]
  clear hres
  have t0:(kind !=1)=true:=by simpa using hk
  go_enter Tryz.func91,Tryz.ntmps91
  go_wp2_with fail
  go_ret
  exact ⟨rfl,Below.refl _ _⟩
section
variable (f1 f2 f3:Fn) (c1 c2 c3:Array Value) (W:World)
theorem ixf0:(Instr.index 151 (.agg #[.func f1 #[] c1,.func f2 #[] c2,.func f3 #[] c3]) (.int .i64 0)).run Tryz.prog W= .ok (.func f1 #[] c1) W:=by kernel_rfl
theorem ixf1:(Instr.index 151 (.agg #[.func f1 #[] c1,.func f2 #[] c2,.func f3 #[] c3]) (.int .i64 1)).run Tryz.prog W= .ok (.func f2 #[] c2) W:=by kernel_rfl
theorem ixf2:(Instr.index 151 (.agg #[.func f1 #[] c1,.func f2 #[] c2,.func f3 #[] c3]) (.int .i64 2)).run Tryz.prog W= .ok (.func f3 #[] c3) W:=by kernel_rfl
end
def MayR (w:World) (p:DeedP) (f:Nat) (i:Value) (wr:World):Prop:=
 ∃k:Nat,k+f=3∧i= .int .i64 (k:Int)∧(∀j,j<k→mays p j=true)∧Below w.heap.size w wr
set_option maxHeartbeats 2000000 in
theorem vmay_any (p:DeedP) (h:DeedH) (w:World) (hd:DeedAt w p h):Calls Tryz.prog 32 #[deedVal p h] w fun e w'=>e= .returned (.bool (mayD p))∧Below w.heap.size w w':=by
 have hmf:∀(fn:Fn) (first cap:Array Value) (w:World),(Instr.makeFunc fn first cap).run Tryz.prog w= .ok (.func fn first cap) w:=fun _ _ _ _=>rfl
 have g1:∀args w,(callFunc 90 args).run Tryz.prog w= .ok (.enter 90 args) w:=fun _ _=>rfl
 have g2:∀args w,(callFunc 91 args).run Tryz.prog w= .ok (.enter 91 args) w:=fun _ _=>rfl
 have g3:∀args w,(callFunc 93 args).run Tryz.prog w= .ok (.enter 93 args) w:=fun _ _=>rfl
 have i0:=fun f1 f2 f3 c1 c2 c3 W=>ixf0 f1 f2 f3 c1 c2 c3 W
 have i1:=fun f1 f2 f3 c1 c2 c3 W=>ixf1 f1 f2 f3 c1 c2 c3 W
 have i2:=fun f1 f2 f3 c1 c2 c3 W=>ixf2 f1 f2 f3 c1 c2 c3 W
 rw [deedVal_cells]
 go_enter Tryz.func32,Tryz.ntmps32
 go_upto_region 2 with (fail)
 obtain ⟨X,hX⟩:∃X,X=w.heap.size:=⟨_,rfl⟩
 rw [←hX]
 refine wp_forget (fun W=>Blk W X (deedCells p h).toArray 40∧Blk W (X+1) #[.pointer (some ⟨X,9,none⟩)] 150∧Below w.heap.size w W) ⟨?_,?_,by subst hX;(try unfold Kept);repeat (first|assumption|exact Below.refl _ _|exact below_undrew (Below.refl _ _)|exact Below.mono (by assumption) (by first|(simp;done)|(simp;omega)|omega)|refine below_setRow ?_ (by first|(simp;done)|(simp;omega)|omega) _|refine Below.setCell ?_ (by first|(simp;done)|(simp;omega)|omega) _|refine Below.alloc ?_ (by first|(simp;done)|(simp;omega)|omega) _|refine below_drewN ?_ _|refine Below.drew ?_|refine below_undrew ?_|refine below_step ?_ (by assumption))⟩ ?_
 ·subst hX;exact Blk.new2 w _ _ _
 ·subst hX;exact Blk.new2' w _ _ _
 rintro W1 ⟨hb,hc,hbw⟩
 clear hX
 go_wp2_with fail
 go_loopg [5,11,12,13,14,15,16] 3 (fun f _ i _ _ _ _ _ wr=>MayR W1 p f i wr)
 case atStart=>exact ⟨0,by omega,rfl,fun j hj=>by omega,Below.refl _ _⟩
 case round=>
  obtain ⟨k,hf,rfl,hall,hbk⟩:=hrel
  have HF:=Lib.hid hf
  clear hf
  have hbr:=hb.old hbk
  have hcr:=hc.old hbk
  have hdr:DeedAt wr p h:=(hd.old hbw).old hbk
  by_cases hk:k<3
  ·have h3:k=0∨k=1∨k=2:=by omega
   rcases h3 with rfl|rfl|rfl
   ·have cb:=may1_any X p h wr hbr
    go_wp2_with fail
    refine cb.mono ?_
    rintro e w2 ⟨rfl,rfl⟩
    clear cb
    cases hq:mays p 0 with
    |false=>
     have hm:mayD p=false:=by unfold mayD;rw [hq];simp
     go_wp2_with fail
     go_ret
     exact ⟨by rw [hm];rfl,below_step hbw hbk⟩
    |true=>
     go_wp2_with fail
     go_roundg (gk-1)
     case rel=>
      exact ⟨1,by have:=HF.out;omega,by go_num,fun j hj=>by
       by_cases e:j=0
       ·rw [e];exact hq
       ·exact hall j (by omega),hbk⟩
     case measure=>have:=HF.out;omega
   ·have cb:=may2_any X (X+1) p h wr hbr hcr hdr
    go_wp2_with fail
    refine cb.mono ?_
    rintro e w2 ⟨rfl,hbn⟩
    clear cb
    cases hq:mays p 1 with
    |false=>
     have hm:mayD p=false:=by unfold mayD;rw [hq];simp
     go_wp2_with fail
     go_ret
     exact ⟨by rw [hm];rfl,below_step hbw (below_step hbk hbn)⟩
    |true=>
     go_wp2_with fail
     go_roundg (gk-1)
     case rel=>
      exact ⟨2,by have:=HF.out;omega,by go_num,fun j hj=>by
       by_cases e:j=1
       ·rw [e];exact hq
       ·exact hall j (by omega),(below_step hbk hbn)⟩
     case measure=>have:=HF.out;omega
   ·have cb:=may3_any X p h wr hbr hdr
    go_wp2_with fail
    refine cb.mono ?_
    rintro e w2 ⟨rfl,hbn⟩
    clear cb
    cases hq:mays p 2 with
    |false=>
     have hm:mayD p=false:=by unfold mayD;rw [hq];simp
     go_wp2_with fail
     go_ret
     exact ⟨by rw [hm];rfl,below_step hbw (below_step hbk hbn)⟩
    |true=>
     go_wp2_with fail
     go_roundg (gk-1)
     case rel=>
      exact ⟨3,by have:=HF.out;omega,by go_num,fun j hj=>by
       by_cases e:j=2
       ·rw [e];exact hq
       ·exact hall j (by omega),(below_step hbk hbn)⟩
     case measure=>have:=HF.out;omega
  ·obtain rfl:k=3:=by have:=HF.out;omega
   have hm:mayD p=true:=by unfold mayD;rw [hall 0 (by omega),hall 1 (by omega),hall 2 (by omega)];rfl
   go_wp2_with fail
   go_ret
   exact ⟨by rw [hm];rfl,below_step hbw hbk⟩
end
end Go.Proofs.YtioigihakjlopaaGreat
