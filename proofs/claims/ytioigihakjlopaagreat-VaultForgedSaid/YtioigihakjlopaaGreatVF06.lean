import Derived.Test.YtioigihakjlopaaGreatVF05
namespace Go.Proofs.YtioigihakjlopaaGreat
open Go.Proofs.Tryz
set_option linter.unusedVariables false
set_option linter.unusedSimpArgs false
set_option maxHeartbeats 16000000
set_option maxRecDepth 100000
section
open Go.RowKit
theorem EM (b c:Nat) (p:ao) (h:aW) (w:World) (hb:Blk w b (ak p h).toArray 40) (hc:Blk w c #[.pointer (some ⟨b,9,none⟩)] 150) (hd:dC w p h):Calls prog 91 #[.pointer (some ⟨b,0,none⟩),.pointer (some ⟨c,0,none⟩)] w fun e w'=>e= .returned (.bool (mK p 1))/\Below w.heap.size w w':=by
 have a0:∀W,Old w.drew W->W.cell? ⟨c,0,none⟩=some (.pointer (some ⟨b,9,none⟩)):=fun W hW=>(hc.drew.old hW).cell rfl;have k0:w.cell? ⟨b,0,none⟩=some (.int .i8 p.kind):=hb.cell rfl;have a3:∀W,Old w.drew W->W.cell? ⟨b,3,none⟩=some (.string p.fmt):=fun W hW=>(hb.drew.old hW).cell rfl;have a4:∀W,Old w.drew W->W.cell? ⟨b,4,none⟩=some (.string p.n0):=fun W hW=>(hb.drew.old hW).cell rfl;have a5:∀W,Old w.drew W->W.cell? ⟨b,5,none⟩=some (.string p.n1):=fun W hW=>(hb.drew.old hW).cell rfl;have a6:∀W,Old w.drew W->W.cell? ⟨b,6,none⟩=some (.slice h.d0.a h.d0.n h.d0.c):=fun W hW=>(hb.drew.old hW).cell rfl;have a7:∀W,Old w.drew W->W.cell? ⟨b,7,none⟩=some (.slice h.d1.a h.d1.n h.d1.c):=fun W hW=>(hb.drew.old hW).cell rfl;have a8:∀W,Old w.drew W->W.cell? ⟨b,8,none⟩=some (.slice h.dr.a h.dr.n h.dr.c):=fun W hW=>(hb.drew.old hW).cell rfl;have a9:∀W,Old w.drew W->W.cell? ⟨b,9,none⟩=some (.int .i8 p.act.op):=fun W hW=>(hb.drew.old hW).cell rfl;have a10:∀W,Old w.drew W->W.cell? ⟨b,10,none⟩=some (.int .i64 p.act.side):=fun W hW=>(hb.drew.old hW).cell rfl;have a11:∀W,Old w.drew W->W.cell? ⟨b,11,none⟩=some (.int .i64 p.act.place):=fun W hW=>(hb.drew.old hW).cell rfl;have a12:∀W,Old w.drew W->W.cell? ⟨b,12,none⟩=some (.int .i64 p.act.target):=fun W hW=>(hb.drew.old hW).cell rfl;have a13:∀W,Old w.drew W->W.cell? ⟨b,13,none⟩=some (.slice h.act.ids.a h.act.ids.n h.act.ids.c):=fun W hW=>(hb.drew.old hW).cell rfl;have a14:∀W,Old w.drew W->W.cell? ⟨b,14,none⟩=some (.slice h.act.pairs.a h.act.pairs.n h.act.pairs.c):=fun W hW=>(hb.drew.old hW).cell rfl;have l0:=hd.d0.2.1;have l1:=hd.d1.2.1;have l2:=hd.dr.2.1;have l3:=hd.act.ids.2.1;have l4:=hd.act.pairs.2.1;have z3:=hd.act.ids.2.2.2.2.1;have z4:=hd.act.pairs.2.2.2.2.1;obtain ⟨kind,game,table,fmt,n0,n1,d0,d1,dr,op,side,place,target,ids,pairs⟩:=p;obtain ⟨⟨q0a,q0,q0c⟩,⟨q1a,q1,q1c⟩,⟨q2a,q2,q2c⟩,⟨q3a,q3,q3c⟩,⟨q4a,q4,q4c⟩⟩:=h;dsimp only at*;clear hb hc hd;by_cases hk:kind=1
 .subst hk;have hres:mK ⟨1,game,table,fmt,n0,n1,d0,d1,dr,⟨op,side,place,target,ids,pairs⟩⟩ 1=(decide (fmt.size<=40)&&(cZ n0&&(cZ n1&&(decide (q0<=60)&&(decide (q1<=60)&&(decide (q2<=256)&&(decide (op=0)&&(decide (side=0)&&(decide (place=0)&&(decide (target=0)&&decide (q3+q4=0))))))))))):=by
   rw [<-l0,<-l1,<-l2,<-l3,<-l4];rfl
  rw [hres];clear hres l0 l1 l2 l3 l4;generalize e1:cZ n0=o1;generalize e2:cZ n1=o2;by_cases g0:fmt.size<=40;rotate_left 1
  .have t0:decide ((fmt.size:Int)<=40)=false:=soA;rw [Vd g0,WV];clear g0;go_enter func91,ntmps91;go_wp2_with fail;refine bU (0::1::2::3::4::5::6::7::8::9::10::11::12::13::14::15::16::17::18::19::20::21::22::23::24::25::26::27::28::29::30::31::32::33::34::35::36::37::38::39::40::41::42::43::44::45::46::47::48::49::50::51::52::53::54::55::56::57::58::59::60::61::62::63::64::65::66::67::68::69::70::71::72::73::74::75::76::77::78::[]) krA krA cdA ?_
   repeat (first|refine gsA ?_|refine gqA ?_)
   refine fq ?_;go_wp2_with fail;go_ret;exact ⟨rfl,(AT _ _).drew⟩
  have t0:decide ((fmt.size:Int)<=40)=true:=soA;rw [VO g0,Vr];clear g0;cases o1 with
  |false=>
   simp only [WV,Bool.and_false];go_enter func91,ntmps91;go_wp2_with fail;refine bU (0::1::2::3::4::5::6::7::8::9::10::11::12::13::14::15::16::17::18::19::20::21::22::23::24::25::26::27::28::29::30::31::32::33::34::35::36::37::38::39::40::41::42::43::44::45::46::47::48::49::50::51::52::53::54::55::56::57::58::59::60::61::62::63::64::65::66::67::68::69::70::71::72::73::74::75::76::77::78::[]) krA krA cdA ?_
   repeat (first|refine gsA ?_|refine gqA ?_)
   refine cT rfl rfl rfA (fun K hK=> ?_);go_wp2_with fail;refine (bL _ _).mono ?_;rintro e w1 ⟨rfl,rfl⟩;rw [e1];go_wp2_with fail;refine hK _ _ (AT _ _) ?_;clear hK K
   repeat (first|refine gsA ?_|refine gqA ?_)
   refine fq ?_;go_wp2_with fail;go_ret;exact ⟨rfl,(AT _ _).drew⟩
  |true=>
   simp only [Vr];cases o2 with
   |false=>
    simp only [WV,Bool.and_false];go_enter func91,ntmps91;go_wp2_with fail;refine bU (0::1::2::3::4::5::6::7::8::9::10::11::12::13::14::15::16::17::18::19::20::21::22::23::24::25::26::27::28::29::30::31::32::33::34::35::36::37::38::39::40::41::42::43::44::45::46::47::48::49::50::51::52::53::54::55::56::57::58::59::60::61::62::63::64::65::66::67::68::69::70::71::72::73::74::75::76::77::78::[]) krA krA cdA ?_
    repeat (first|refine gsA ?_|refine gqA ?_)
    refine cT rfl rfl rfA (fun K hK=> ?_);go_wp2_with fail;refine (bL _ _).mono ?_;rintro e w1 ⟨rfl,rfl⟩;rw [e1];go_wp2_with fail;refine hK _ _ (AT _ _) ?_;clear hK K
    repeat (first|refine gsA ?_|refine gqA ?_)
    refine cT rfl rfl rfA (fun K hK=> ?_);go_wp2_with fail;refine (bL _ _).mono ?_;rintro e w1 ⟨rfl,rfl⟩;rw [e2];go_wp2_with fail;refine hK _ _ (AT _ _) ?_;clear hK K
    repeat (first|refine gsA ?_|refine gqA ?_)
    refine fq ?_;go_wp2_with fail;go_ret;exact ⟨rfl,(AT _ _).drew⟩
   |true=>
    simp only [Vr];by_cases g3:q0<=60;rotate_left 1
    .have t3:decide ((q0:Int)<=60)=false:=soA;rw [Vd g3,WV];clear g3;go_enter func91,ntmps91;go_wp2_with fail;refine bU (0::1::2::3::4::5::6::7::8::9::10::11::12::13::14::15::16::17::18::19::20::21::22::23::24::25::26::27::28::29::30::31::32::33::34::35::36::37::38::39::40::41::42::43::44::45::46::47::48::49::50::51::52::53::54::55::56::57::58::59::60::61::62::63::64::65::66::67::68::69::70::71::72::73::74::75::76::77::78::[]) krA krA cdA ?_
     repeat (first|refine gsA ?_|refine gqA ?_)
     refine cT rfl rfl rfA (fun K hK=> ?_);go_wp2_with fail;refine (bL _ _).mono ?_;rintro e w1 ⟨rfl,rfl⟩;rw [e1];go_wp2_with fail;refine hK _ _ (AT _ _) ?_;clear hK K
     repeat (first|refine gsA ?_|refine gqA ?_)
     refine cT rfl rfl rfA (fun K hK=> ?_);go_wp2_with fail;refine (bL _ _).mono ?_;rintro e w1 ⟨rfl,rfl⟩;rw [e2];go_wp2_with fail;refine hK _ _ (AT _ _) ?_;clear hK K
     repeat (first|refine gsA ?_|refine gqA ?_)
     refine fq ?_;go_wp2_with fail;go_ret;exact ⟨rfl,(AT _ _).drew⟩
    have t3:decide ((q0:Int)<=60)=true:=soA;rw [VO g3,Vr];clear g3;by_cases g4:q1<=60;rotate_left 1
    .have t4:decide ((q1:Int)<=60)=false:=soA;rw [Vd g4,WV];clear g4;go_enter func91,ntmps91;go_wp2_with fail;refine bU (0::1::2::3::4::5::6::7::8::9::10::11::12::13::14::15::16::17::18::19::20::21::22::23::24::25::26::27::28::29::30::31::32::33::34::35::36::37::38::39::40::41::42::43::44::45::46::47::48::49::50::51::52::53::54::55::56::57::58::59::60::61::62::63::64::65::66::67::68::69::70::71::72::73::74::75::76::77::78::[]) krA krA cdA ?_
     repeat (first|refine gsA ?_|refine gqA ?_)
     refine cT rfl rfl rfA (fun K hK=> ?_);go_wp2_with fail;refine (bL _ _).mono ?_;rintro e w1 ⟨rfl,rfl⟩;rw [e1];go_wp2_with fail;refine hK _ _ (AT _ _) ?_;clear hK K
     repeat (first|refine gsA ?_|refine gqA ?_)
     refine cT rfl rfl rfA (fun K hK=> ?_);go_wp2_with fail;refine (bL _ _).mono ?_;rintro e w1 ⟨rfl,rfl⟩;rw [e2];go_wp2_with fail;refine hK _ _ (AT _ _) ?_;clear hK K
     repeat (first|refine gsA ?_|refine gqA ?_)
     refine fq ?_;go_wp2_with fail;go_ret;exact ⟨rfl,(AT _ _).drew⟩
    have t4:decide ((q1:Int)<=60)=true:=soA;rw [VO g4,Vr];clear g4;by_cases g5:q2<=256;rotate_left 1
    .have t5:decide ((q2:Int)<=256)=false:=soA;rw [Vd g5,WV];clear g5;go_enter func91,ntmps91;go_wp2_with fail;refine bU (0::1::2::3::4::5::6::7::8::9::10::11::12::13::14::15::16::17::18::19::20::21::22::23::24::25::26::27::28::29::30::31::32::33::34::35::36::37::38::39::40::41::42::43::44::45::46::47::48::49::50::51::52::53::54::55::56::57::58::59::60::61::62::63::64::65::66::67::68::69::70::71::72::73::74::75::76::77::78::[]) krA krA cdA ?_
     repeat (first|refine gsA ?_|refine gqA ?_)
     refine cT rfl rfl rfA (fun K hK=> ?_);go_wp2_with fail;refine (bL _ _).mono ?_;rintro e w1 ⟨rfl,rfl⟩;rw [e1];go_wp2_with fail;refine hK _ _ (AT _ _) ?_;clear hK K
     repeat (first|refine gsA ?_|refine gqA ?_)
     refine cT rfl rfl rfA (fun K hK=> ?_);go_wp2_with fail;refine (bL _ _).mono ?_;rintro e w1 ⟨rfl,rfl⟩;rw [e2];go_wp2_with fail;refine hK _ _ (AT _ _) ?_;clear hK K
     repeat (first|refine gsA ?_|refine gqA ?_)
     refine fq ?_;go_wp2_with fail;go_ret;exact ⟨rfl,(AT _ _).drew⟩
    have t5:decide ((q2:Int)<=256)=true:=soA;rw [VO g5,Vr];clear g5;by_cases g6:op=0;rotate_left 1
    .have t6:(op==0)=false:=soA;rw [Vd g6,WV];clear g6;go_enter func91,ntmps91;go_wp2_with fail;refine bU (0::1::2::3::4::5::6::7::8::9::10::11::12::13::14::15::16::17::18::19::20::21::22::23::24::25::26::27::28::29::30::31::32::33::34::35::36::37::38::39::40::41::42::43::44::45::46::47::48::49::50::51::52::53::54::55::56::57::58::59::60::61::62::63::64::65::66::67::68::69::70::71::72::73::74::75::76::77::78::[]) krA krA cdA ?_
     repeat (first|refine gsA ?_|refine gqA ?_)
     refine cT rfl rfl rfA (fun K hK=> ?_);go_wp2_with fail;refine (bL _ _).mono ?_;rintro e w1 ⟨rfl,rfl⟩;rw [e1];go_wp2_with fail;refine hK _ _ (AT _ _) ?_;clear hK K
     repeat (first|refine gsA ?_|refine gqA ?_)
     refine cT rfl rfl rfA (fun K hK=> ?_);go_wp2_with fail;refine (bL _ _).mono ?_;rintro e w1 ⟨rfl,rfl⟩;rw [e2];go_wp2_with fail;refine hK _ _ (AT _ _) ?_;clear hK K
     repeat (first|refine gsA ?_|refine gqA ?_)
     refine fq ?_;go_wp2_with fail;go_ret;exact ⟨rfl,(AT _ _).drew⟩
    have t6:(op==0)=true:=soA;rw [VO g6,Vr];clear g6;by_cases g7:side=0;rotate_left 1
    .have t7:(side==0)=false:=soA;rw [Vd g7,WV];clear g7;go_enter func91,ntmps91;go_wp2_with fail;refine bU (0::1::2::3::4::5::6::7::8::9::10::11::12::13::14::15::16::17::18::19::20::21::22::23::24::25::26::27::28::29::30::31::32::33::34::35::36::37::38::39::40::41::42::43::44::45::46::47::48::49::50::51::52::53::54::55::56::57::58::59::60::61::62::63::64::65::66::67::68::69::70::71::72::73::74::75::76::77::78::[]) krA krA cdA ?_
     repeat (first|refine gsA ?_|refine gqA ?_)
     refine cT rfl rfl rfA (fun K hK=> ?_);go_wp2_with fail;refine (bL _ _).mono ?_;rintro e w1 ⟨rfl,rfl⟩;rw [e1];go_wp2_with fail;refine hK _ _ (AT _ _) ?_;clear hK K
     repeat (first|refine gsA ?_|refine gqA ?_)
     refine cT rfl rfl rfA (fun K hK=> ?_);go_wp2_with fail;refine (bL _ _).mono ?_;rintro e w1 ⟨rfl,rfl⟩;rw [e2];go_wp2_with fail;refine hK _ _ (AT _ _) ?_;clear hK K
     repeat (first|refine gsA ?_|refine gqA ?_)
     refine fq ?_;go_wp2_with fail;go_ret;exact ⟨rfl,(AT _ _).drew⟩
    have t7:(side==0)=true:=soA;rw [VO g7,Vr];clear g7;by_cases g8:place=0;rotate_left 1
    .have t8:(place==0)=false:=soA;rw [Vd g8,WV];clear g8;go_enter func91,ntmps91;go_wp2_with fail;refine bU (0::1::2::3::4::5::6::7::8::9::10::11::12::13::14::15::16::17::18::19::20::21::22::23::24::25::26::27::28::29::30::31::32::33::34::35::36::37::38::39::40::41::42::43::44::45::46::47::48::49::50::51::52::53::54::55::56::57::58::59::60::61::62::63::64::65::66::67::68::69::70::71::72::73::74::75::76::77::78::[]) krA krA cdA ?_
     repeat (first|refine gsA ?_|refine gqA ?_)
     refine cT rfl rfl rfA (fun K hK=> ?_);go_wp2_with fail;refine (bL _ _).mono ?_;rintro e w1 ⟨rfl,rfl⟩;rw [e1];go_wp2_with fail;refine hK _ _ (AT _ _) ?_;clear hK K
     repeat (first|refine gsA ?_|refine gqA ?_)
     refine cT rfl rfl rfA (fun K hK=> ?_);go_wp2_with fail;refine (bL _ _).mono ?_;rintro e w1 ⟨rfl,rfl⟩;rw [e2];go_wp2_with fail;refine hK _ _ (AT _ _) ?_;clear hK K
     repeat (first|refine gsA ?_|refine gqA ?_)
     refine fq ?_;go_wp2_with fail;go_ret;exact ⟨rfl,(AT _ _).drew⟩
    have t8:(place==0)=true:=soA;rw [VO g8,Vr];clear g8;by_cases g9:target=0;rotate_left 1
    .have t9:(target==0)=false:=soA;rw [Vd g9,WV];clear g9;go_enter func91,ntmps91;go_wp2_with fail;refine bU (0::1::2::3::4::5::6::7::8::9::10::11::12::13::14::15::16::17::18::19::20::21::22::23::24::25::26::27::28::29::30::31::32::33::34::35::36::37::38::39::40::41::42::43::44::45::46::47::48::49::50::51::52::53::54::55::56::57::58::59::60::61::62::63::64::65::66::67::68::69::70::71::72::73::74::75::76::77::78::[]) krA krA cdA ?_
     repeat (first|refine gsA ?_|refine gqA ?_)
     refine cT rfl rfl rfA (fun K hK=> ?_);go_wp2_with fail;refine (bL _ _).mono ?_;rintro e w1 ⟨rfl,rfl⟩;rw [e1];go_wp2_with fail;refine hK _ _ (AT _ _) ?_;clear hK K
     repeat (first|refine gsA ?_|refine gqA ?_)
     refine cT rfl rfl rfA (fun K hK=> ?_);go_wp2_with fail;refine (bL _ _).mono ?_;rintro e w1 ⟨rfl,rfl⟩;rw [e2];go_wp2_with fail;refine hK _ _ (AT _ _) ?_;clear hK K
     repeat (first|refine gsA ?_|refine gqA ?_)
     refine fq ?_;go_wp2_with fail;go_ret;exact ⟨rfl,(AT _ _).drew⟩
    have t9:(target==0)=true:=soA;rw [VO g9,Vr];clear g9;have t11:IntKind.i64.wrap ((q3:Int)+(q4:Int))=(q3:Int)+(q4:Int):=(by rw [VZ];omega);have t12:((q3:Int)+(q4:Int)==0)=decide (q3+q4=0):=by
     rw [Wj,Xj,Vu];omega
    have t14:(decide (q3=0)&&decide (q4=0))=decide (q3+q4=0):=by
     rw [Wj];simp;try omega
    have T14:=Hd t14;clear t14;clear z3 z4;go_enter func91,ntmps91;go_wp2_with fail;refine bU (0::1::2::3::4::5::6::7::8::9::10::11::12::13::14::15::16::17::18::19::20::21::22::23::24::25::26::27::28::29::30::31::32::33::34::35::36::37::38::39::40::41::42::43::44::45::46::47::48::49::50::51::52::53::54::55::56::57::58::59::60::61::62::63::64::65::66::67::68::69::70::71::72::73::74::75::76::77::78::[]) krA krA cdA ?_
    repeat (first|refine gsA ?_|refine gqA ?_)
    refine cT rfl rfl rfA (fun K hK=> ?_);go_wp2_with fail;refine (bL _ _).mono ?_;rintro e w1 ⟨rfl,rfl⟩;rw [e1];go_wp2_with fail;refine hK _ _ (AT _ _) ?_;clear hK K
    repeat (first|refine gsA ?_|refine gqA ?_)
    refine cT rfl rfl rfA (fun K hK=> ?_);go_wp2_with fail;refine (bL _ _).mono ?_;rintro e w1 ⟨rfl,rfl⟩;rw [e2];go_wp2_with fail;refine hK _ _ (AT _ _) ?_;clear hK K
    repeat (first|refine gsA ?_|refine gqA ?_)
    refine fq ?_;go_wp2_with fail;go_ret;exact ⟨by first|rfl|(rw [<-t12];rfl)|(rw [<-T14.out];rfl),(AT _ _).drew⟩
 .have hres:mK ⟨kind,game,table,fmt,n0,n1,d0,d1,dr,⟨op,side,place,target,ids,pairs⟩⟩ 1=true:=(by unfold mK;simp [hk]);rw [hres];clear hres;have t0:(kind !=1)=true:=(by simpa using hk);go_enter func91,ntmps91;go_wp2_with fail;go_ret;exact ⟨rfl,AT _ _⟩
section
variable (f1 f2 f3:Fn) (c1 c2 c3:Array Value) (W:World)
theorem ixf0:(Instr.index 151 (.agg #[.func f1 #[] c1,.func f2 #[] c2,.func f3 #[] c3]) (.int .i64 0)).run prog W= .ok (.func f1 #[] c1) W:=by kernel_rfl
theorem ixf1:(Instr.index 151 (.agg #[.func f1 #[] c1,.func f2 #[] c2,.func f3 #[] c3]) (.int .i64 1)).run prog W= .ok (.func f2 #[] c2) W:=by kernel_rfl
theorem ixf2:(Instr.index 151 (.agg #[.func f1 #[] c1,.func f2 #[] c2,.func f3 #[] c3]) (.int .i64 2)).run prog W= .ok (.func f3 #[] c3) W:=by kernel_rfl
end
def MayR (w:World) (p:ao) (f:Nat) (i:Value) (wr:World):Prop:=
 ∃k:Nat,k+f=3/\i= .int .i64 (k:Int)/\(∀j,j<k->mK p j=true)/\Below w.heap.size w wr
theorem xA (p:ao) (h:aW) (w:World) (hd:dC w p h):Calls prog 32 #[dR p h] w fun e w'=>e= .returned (.bool (il p))/\Below w.heap.size w w':=by
 have hmf:∀(fn:Fn) (first cap:Array Value) (w:World),(Instr.makeFunc fn first cap).run prog w= .ok (.func fn first cap) w:=fun _ _ _ _=>rfl;have g1:∀args w,(callFunc 90 args).run prog w= .ok (.enter 90 args) w:=fun _ _=>rfl;have g2:∀args w,(callFunc 91 args).run prog w= .ok (.enter 91 args) w:=fun _ _=>rfl;have g3:∀args w,(callFunc 93 args).run prog w= .ok (.enter 93 args) w:=fun _ _=>rfl;have i0:=fun f1 f2 f3 c1 c2 c3 W=>ixf0 f1 f2 f3 c1 c2 c3 W;have i1:=fun f1 f2 f3 c1 c2 c3 W=>ixf1 f1 f2 f3 c1 c2 c3 W;have i2:=fun f1 f2 f3 c1 c2 c3 W=>ixf2 f1 f2 f3 c1 c2 c3 W;rw [aH];go_enter func32,ntmps32;go_upto_region 2 with (fail);obtain ⟨X,hX⟩:=Le w.heap.size;rw [<-hX];refine af (fun W=>Blk W X (ak p h).toArray 40/\Blk W (X+1) #[.pointer (some ⟨X,9,none⟩)] 150/\Below w.heap.size w W) ⟨?_,?_,by subst hX;exact cL⟩ ?_
 .subst hX;exact Blk.new2 w _ _ _
 .subst hX;exact Blk.new2' w _ _ _
 rintro W1 ⟨hb,hc,hbw⟩;clear hX;go_wp2_with fail;go_loopg [5,11,12,13,14,15,16] 3 (fun f _ i _ _ _ _ _ wr=>MayR W1 p f i wr)
 case atStart=>exact ⟨0,oA,rfl,fun j hj=>by omega,AT _ _⟩
 case round=>
  obtain ⟨k,hf,rfl,hall,hbk⟩:=hrel;have HF:=Hd hf;clear hf;have hbr:=hb.old hbk;have hcr:=hc.old hbk;have hdr:dC wr p h:=(hd.old hbw).old hbk;by_cases hk:k<3
  .have h3:k=0\/k=1\/k=2:=oA;rcases h3 with rfl|rfl|rfl
   .have cb:=EO X p h wr hbr;go_wp2_with fail;refine cb.mono ?_;rintro e w2 ⟨rfl,rfl⟩;clear cb;cases hq:mK p 0 with
    |false=>
     have hm:il p=false:=(by unfold il;rw [hq];simp);go_wp2_with fail;go_ret;exact ⟨by rw [hm];rfl,ae hbw hbk⟩
    |true=>
     go_wp2_with fail;go_roundg (gk-1)
     case rel=>
      exact ⟨1,by have:=HF.out;omega,gnA,fun j hj=>by
       by_cases e:j=0
       .rw [e];exact hq
       .exact hall j oA,hbk⟩
     case measure=>have:=HF.out;omega
   .have cb:=EM X (X+1) p h wr hbr hcr hdr;go_wp2_with fail;refine cb.mono ?_;rintro e w2 ⟨rfl,hbn⟩;clear cb;cases hq:mK p 1 with
    |false=>
     have hm:il p=false:=(by unfold il;rw [hq];simp);go_wp2_with fail;go_ret;exact ⟨by rw [hm];rfl,ae hbw (ae hbk hbn)⟩
    |true=>
     go_wp2_with fail;go_roundg (gk-1)
     case rel=>
      exact ⟨2,by have:=HF.out;omega,gnA,fun j hj=>by
       by_cases e:j=1
       .rw [e];exact hq
       .exact hall j oA,(ae hbk hbn)⟩
     case measure=>have:=HF.out;omega
   .have cb:=EL X p h wr hbr hdr;go_wp2_with fail;refine cb.mono ?_;rintro e w2 ⟨rfl,hbn⟩;clear cb;cases hq:mK p 2 with
    |false=>
     have hm:il p=false:=(by unfold il;rw [hq];simp);go_wp2_with fail;go_ret;exact ⟨by rw [hm];rfl,ae hbw (ae hbk hbn)⟩
    |true=>
     go_wp2_with fail;go_roundg (gk-1)
     case rel=>
      exact ⟨3,by have:=HF.out;omega,gnA,fun j hj=>by
       by_cases e:j=2
       .rw [e];exact hq
       .exact hall j oA,(ae hbk hbn)⟩
     case measure=>have:=HF.out;omega
  .obtain rfl:k=3:=(by have:=HF.out;omega);have hm:il p=true:=(by unfold il;rw [hall 0 oA,hall 1 oA,hall 2 oA];rfl);go_wp2_with fail;go_ret;exact ⟨by rw [hm];rfl,ae hbw hbk⟩
theorem Aq (w:World) (p:bq) (h:dt) (ha:eK w p h) (hz:(dq p).length<100000000000):
  Calls prog 76 #[bI p h] w fun e w'=>∃a c,e= .returned (.slice a (dq p).length c)/\Own w' w.heap.size 5 1 a (dq p).length c ((dq p).map bv)/\Below w.heap.size w w':=by
 rw [ed];go_enter func76,ntmps76;go_upto_region 1 with (fail);obtain ⟨S,hS⟩:=Le w.heap.size;rw [<-hS];refine af (fun W=>Blk W S (ay p h).toArray 38/\Below w.heap.size w W/\S<W.heap.size) ⟨by rw [hS];exact Blk.new w _ _,cL,by rw [hS];simp⟩ ?_;rintro W1 ⟨hs1,hb1,hl1⟩;have HS:=Hd hS;clear hS;go_upto_region 2 with (fail);obtain ⟨C,hC⟩:=Le W1.heap.size;rw [<-hC];refine af (fun W=>Blk W C #[.slice none 0 0,.int .i64 0,.bool false] 184/\Below W1.heap.size W1 W) ⟨by rw [hC];exact Blk.new W1 _ _,cL⟩ ?_;rintro W2 ⟨hc2,hb2⟩;have hb02:=ae hb1 hb2;have hq2:WAt W2 W1.heap.size ⟨C,none,0,[]⟩:=⟨by show W1.heap.size<=C;omega,hc2,Own.nil _ _ _ _⟩;have hin:gv W2 W1.heap.size p h:=((gv.of ha).low hb02).mono hb1.size;have cb:=FF W2 W1.heap.size ⟨C,none,0,[]⟩ S p h hq2 hb2.size (hs1.old hb2) hin hl1 soA;dsimp only at cb;clear hC;go_wp2_with fail;refine cb.mono ?_;clear cb;rintro e W3 ⟨rfl,q',hbs,hs⟩;have cc:=hs.at'.blk.rule;unfold iw at cc;have hc':q'.c=C:=hs.c;rw [hc'] at cc;have hbq:q'.bs=dq p:=(by rw [hbs.out];simp);have hb03:=hb1.trans ((hs.below hq2 hb2.size).mono hb1.size|>(Below.trans (hb2.mono hb1.size)));have HQ:=Hd hbq;have hrow:=hs.at'.row;have HR:=Hd hrow;clear hbq hrow;go_wp2_with fail;go_ret;refine ⟨q'.a,q'.cap,by rw [HQ.out];rfl,?_,hb03⟩;have:=HR.out.lower hb1.size;rw [HQ.out] at this;exact this
structure RC where
 c:Nat
 a:Option Addr
 cap:Nat
 bs:List UInt8
 at_:Nat
def RC.to (q:RC) (a:Nat):RC:={q with at_:=a}
def gR (q:RC):Array Value:= #[.slice q.a q.bs.length q.cap,.int .i64 (q.at_:Int),.bool true]
structure RAt (w:World) (B:Nat) (q:RC):Prop where
 ge:B<=q.c
 blk:Blk w q.c (gR q) 184
 row:ah w q.a q.bs
 low:InB B q.a q.bs.length
 le:q.at_<=q.bs.length
 max:q.bs.length<=1048576
def lU (p:Nat):List PanicEntry:=[{v:= .iface 218 (.agg #[.int .i64 (p:Int)]),recovered:=false}]
section
variable {w w' w'':World} {B:Nat} {q q' q'':RC}
theorem RAt.keep (h:RAt w B q) (hk:w'.heap[q.c]? =w.heap[q.c]?) (hb:Below B w w'):RAt w' B q:=
 ⟨h.ge,hk.trans h.blk,aw.low h.row h.low (fun h0=>by rw [Vz h0];rfl) hb,h.low,h.le,h.max⟩
theorem RAt.old (h:RAt w B q) (hb:Below w.heap.size w w') (hB:B<=w.heap.size):RAt w' B q:=h.keep (hb.block _ h.blk.lt) (hb.mono hB)
structure lO (B:Nat) (w:World) (q:RC) (w':World) (q':RC) (xb:Nat) (cs:Array Value) (t:TypeId):Prop where
 at':RAt w' B q'
 turn:aJ (fun x=>x=q.c\/x=xb) w w'
 blk:Blk w' xb cs t
theorem lO.below {xb:Nat} {cs:Array Value} {t:TypeId} (h:lO B w q w' q' xb cs t) (hq:RAt w B q) (hx:B<=xb) (hB:B<=w.heap.size):Below B w w':=h.turn.below (fun x hx2=>by
 rcases hx2 with rfl|rfl
 .exact hq.ge
 .exact hx) hB
theorem Blk.uniq {b:Nat} {cs cs':Array Value} {t:TypeId} (h:Blk w b cs t) (h':Blk w b cs' t):cs=cs':=by
 have h1:w.heap[b]? =_:=h;have h2:w.heap[b]? =_:=h';rw [h1] at h2;simpa using h2
structure gq (w:World) (q:RC) (w':World) (xb:Nat) (t:TypeId):Prop where
 turn:aJ (fun x=>x=q.c\/x=xb) w w'
 blk:∀cs,Blk w xb cs t->∃cs',Blk w' xb cs' t/\cs'.size=cs.size
variable {xb Y:Nat} {t tY:TypeId} {cs cs':Array Value}
theorem gq.below (h:gq w q w' xb t) (hq:RAt w B q) (hx:B<=xb) (hB:B<=w.heap.size):Below B w w':=h.turn.below (fun x hx2=>by
 rcases hx2 with rfl|rfl
 .exact hq.ge
 .exact hx) hB
theorem gq.keep (ht:aJ (fun x=>x=q.c) w w') (hne:xb≠q.c) (hl:xb<w.heap.size):gq w q w' xb t:=
 ⟨ht.mono fun _ h=> .inl h,fun cs h=>⟨cs,(ht.block xb hl hne).trans h,rfl⟩⟩
theorem gq.of (hx:Blk w xb cs t) (ht:aJ (fun x=>x=q.c\/x=xb) w w') (hx':Blk w' xb cs' t) (hs:cs'.size=cs.size):gq w q w' xb t:=
 ⟨ht,fun c h=>⟨cs',hx',by rw [hs,hx.uniq h]⟩⟩
theorem gq.after (h:lO B w q w' q' xb cs' t) (hx:Blk w xb cs t) (hs:cs'.size=cs.size) (h2:gq w' q'' w'' xb t) (hc:q''.c=q.c):gq w q w'' xb t:=by
 obtain ⟨c2,h3,h4⟩:=h2.blk _ h.blk;exact gq.of hx (h.turn.trans h2.turn fun x hx=> .inl (by rwa [hc] at hx)) h3 (h4.trans hs)
theorem gq.pre {w0:World} (hb:Below w0.heap.size w0 w) (h:gq w q w' xb t):gq w0 q w' xb t:=
 ⟨(aJ.of_below (F:=fun x=>x=q.c\/x=xb) hb).trans h.turn (fun _ hk=> .inl hk),fun cs hx=>h.blk cs (hx.old hb)⟩
theorem rz {w1:World} (hb:Below w.heap.size w w1) (ht:aJ (fun x=>x=q'.c\/x=Y) w1 w') (hY:w.heap.size<=Y) (hc:q'.c=q.c):aJ (fun x=>x=q.c) w w':=
 (aJ.of_below (F:=fun x=>x=q.c) hb).trans ht fun x hx=>by
  rcases hx with rfl|rfl
  .exact .inl hc
  .exact .inr hY
theorem gq.loc {w1:World} (hb:Below w.heap.size w w1) (h:gq w1 q' w' Y tY) (hY:w.heap.size<=Y) (hc:q'.c=q.c) (hne:xb≠q.c) (hl:xb<w.heap.size):gq w q w' xb t:=gq.keep (rz hb h.turn hY hc) hne hl
theorem lO.loc {w1:World} (hb:Below w.heap.size w w1) (h:lO B w1 q' w' q'' Y cs tY) (hY:w.heap.size<=Y) (hc:q'.c=q.c) (hne:xb≠q.c) (hl:xb<w.heap.size):gq w q w' xb t:=gq.keep (rz hb h.turn hY hc) hne hl
theorem gq.drewN (h:gq w q w' xb t) (n:Nat):gq w q (w'.drewN n) xb t:=⟨h.turn.drewN n,h.blk⟩
end
theorem LR (w:World) (B:Nat) (q:RC) (yb:Nat) (z:Int) (hq:RAt w B q) (hB:B<=w.heap.size) (hy:Blk w yb #[.int .u8 z] 5) (hyB:B<=yb):
  Calls prog 179 #[.pointer (some ⟨q.c,0,none⟩),.pointer (some ⟨yb,0,none⟩)] w fun e w'=>(q.at_=q.bs.length->e= .panicked (lU q.at_)/\gq w q w' yb 5)/\(∀hl:q.at_<q.bs.length,e= .returned (.tuple #[])/\lO B w q w' (q.to (q.at_+1)) yb #[.int .u8 (U8 q.bs[q.at_])] 5):=by
 have hc:=hq.blk.rule;unfold gR at hc;have hcl:=hq.blk.lt;have hyl:=hy.lt;have hmx:=hq.max;have hle:=hq.le;by_cases hl:q.at_<q.bs.length
 .obtain ⟨b,o,ha,hcell⟩:=hq.row q.at_ (by simpa using hl);have hbl:b<w.heap.size:=VV w _ hcell;have hbB:b<B:=hq.low oA _ ha;rw [Wz] at hcell;unfold bv at hcell;rw [ha] at hc;have t0:((q.at_:Int)==(q.bs.length:Int))=false:=soA;go_enter func179,ntmps179;go_wp2_with fail;have l0:∀W,Old w.drew W->∀i,W.cell? ⟨q.c,i,none⟩=(gR q)[i]? :=fun W hW i=>(by rw [hW.cell (p:=⟨q.c,i,none⟩) hcl];exact hq.blk.rule i);have l1:∀W,Old w.drew W->W.cell? ⟨q.c,0,none⟩=some (.slice (some ⟨b,o,none⟩) q.bs.length q.cap):=fun W hW=>(by rw [l0 W hW 0];unfold gR;rw [ha];rfl);have l2:∀W,Old w.drew W->W.cell? ⟨q.c,1,none⟩=some (.int .i64 (q.at_:Int)):=fun W hW=>(by rw [l0 W hW 1];rfl);clear l0;refine aA (0::1::2::3::4::5::6::7::8::9::[]) krA krA cdA ?_
  repeat (first|refine lsA ?_|refine lqA ?_)
  refine bO ?_;go_upto_region 4 with (fail);have hcl2:q.c<w.drew.heap.size:=hcl;clear l1 l2;have hb1:Below w.heap.size w w.drew:=cL;obtain ⟨w1,hw1⟩:=Le w.drew;rw [<-hw1] at hb1⊢;have hq1:=hq.old hb1 hB;have hy1:=hy.old hb1;have hcell1:w1.cell? ⟨b,o+q.at_,none⟩=some (.int .u8 (U8 q.bs[q.at_])):=(by rw [hb1.cell (p:=⟨b,o+q.at_,none⟩) hbl];exact hcell);clear hw1;have hbl1:=VF hbl hb1.size;have hcl1:=hq1.blk.lt;have hyl1:=hy1.lt;have l0:∀W,Old w1.drew W->∀i,W.cell? ⟨q.c,i,none⟩=(gR q)[i]? :=fun W hW i=>(by rw [hW.cell (p:=⟨q.c,i,none⟩) hcl1];exact hq1.blk.rule i);have l1:∀W,Old w1.drew W->W.cell? ⟨q.c,0,none⟩=some (.slice (some ⟨b,o,none⟩) q.bs.length q.cap):=fun W hW=>(by rw [l0 W hW 0];unfold gR;rw [ha];rfl);have l2:∀W,Old w1.drew W->W.cell? ⟨q.c,1,none⟩=some (.int .i64 (q.at_:Int)):=fun W hW=>(by rw [l0 W hW 1];rfl);have l3:∀W,Old w1.drew W->W.cell? ⟨b,o+q.at_,none⟩=some (.int .u8 (U8 q.bs[q.at_])):=fun W hW=>(by rw [hW.cell (p:=⟨b,o+q.at_,none⟩) hbl1];exact hcell1);obtain ⟨y,hyd⟩:=Le (q.bs[q.at_]);rw [<-hyd] at l3;have HYD:=Hd hyd;clear hyd;have cy:=hy1.rule;have fy:=hy1.free;clear l0 hcell hcell1;refine aj true Old Old.refl Old.trans (.step 0 (.step 1 (.step 2 (.step 3 (.step 4 (.step 5 (.step 6 (.step 7 (.step 8 (.step 9 (.step 10 (.step 11 (.step 12 .done))))))))))))) krA krA cdA ?_
  repeat (first|refine tsA ?_|refine tqA ?_)
  refine az rfl rfl rfA (fun K hK=> ?_);go_wp2_with fail;refine ap ?_;go_upto_region 5 with (fail);have hne:yb≠q.c:=hy1.ne hq1.blk dcA;refine af (fun W=>Blk W yb #[.int .u8 (U8 y)] 5/\RAt W B q/\aJ (fun x=>x=q.c\/x=yb) w W) ⟨?_,?_,?_⟩ ?_
  .exact (hy1.set 0 (.int .u8 (U8 y))).drew
  .exact hq1.keep (VU _ _ _ _ (Vf hne)) ((AT _ _).setCell hyB _).drew
  .exact ((aJ.of_below hb1).setCell (.inl (.inr rfl)) _).drew
  rintro W2 ⟨hy2,hq2,ht2⟩;have c2:=hq2.blk.rule;have f2:=hq2.blk.free;unfold gR at c2;have hadd:IntKind.i64.wrap ((q.at_:Int)+1)=((q.at_+1:Nat):Int):=(by rw [VZ];omega);clear l1 l2 l3 cy fy hc hb1 hbl1 hcl1 hyl1;go_wp2_with fail;refine WF (v:= .tuple #[]) (Wx rfl _ _ _) rfl ⟨fun e=>absurd e (Nat.ne_of_lt hl),fun _=>⟨rfl,⟨⟨hq.ge,?_,?_,hq.low,hl,hmx⟩,ht2.setCell (.inl (.inl rfl)) _,?_⟩⟩⟩
  .have:=hq2.blk.set 1 (.int .i64 ((q.at_+1:Nat):Int));unfold gR at this;simpa [gR,RC.to,ha] using this
  .exact aw.low hq2.row hq2.low (fun h0=>by show q.bs.map bv=[];rw [Vz h0];rfl) ((AT _ _).setCell hq.ge _)
  .rw [<-HYD.out];exact (VU _ _ _ _ hne).trans hy2
 .have he:q.at_=q.bs.length:=oA;have t0:((q.at_:Int)==(q.bs.length:Int))=true:=(by simp [he]);have HE:=Hd he;have l0:∀W,Old w.drew W->∀i,W.cell? ⟨q.c,i,none⟩=(gR q)[i]? :=fun W hW i=>(by rw [hW.cell (p:=⟨q.c,i,none⟩) hcl];exact hq.blk.rule i);have l1:∀W,Old w.drew W->W.cell? ⟨q.c,0,none⟩=some (.slice q.a q.bs.length q.cap):=fun W hW=>(by rw [l0 W hW 0];rfl);have l2:∀W,Old w.drew W->W.cell? ⟨q.c,1,none⟩=some (.int .i64 (q.at_:Int)):=fun W hW=>(by rw [l0 W hW 1];rfl);clear l0 he;go_enter func179,ntmps179;go_wp2_with fail;refine aA (0::1::2::3::4::5::6::7::8::9::[]) krA krA cdA ?_
  repeat (first|refine lsA ?_|refine lqA ?_)
  refine bO ?_;go_wp2_with fail;exact ⟨rfl,fun _=>⟨rfl,gq.keep ((aJ.refl _ _).drew) (hy.ne hq.blk dcA) hyl⟩,fun hlt=>absurd hlt hl⟩
theorem kN (a:BitVec 64):IntKind.i64.wrap (U64 a)=a.toInt:=by
 rw [VZ];unfold U64;have:=a.isLt;rw [BitVec.toInt_eq_toNat_cond];split<;>omega
theorem oq (l:List UInt8) (y:UInt8):rdB (l++ [y])=(rdB l<<<8|||y.toBitVec.setWidth 64):=by
 unfold rdB;rw [List.foldl_append];rfl
theorem lO.chain {w w' w'':World} {B:Nat} {q q' q'':RC} {xb:Nat} {cs cs':Array Value} {t:TypeId} (h:lO B w q w' q' xb cs t) (h':lO B w' q' w'' q'' xb cs' t) (hc:q'.c=q.c):lO B w q w'' q'' xb cs' t:=
 ⟨h'.at',h.turn.trans h'.turn (fun k hk=> .inl (by rwa [hc] at hk)),h'.blk⟩
theorem nJ (x:Int):BitVec.ofInt 64 (IntKind.u64.wrap x)=BitVec.ofInt 64 x:=by
 apply Wd;rw [Wp,Wp];simp only [IntKind.wrap,IntKind.bits,IntKind.signed];simp
theorem DK (x:BitVec 64):IntKind.u64.wrap (x.toNat:Int)=U64 x:=by
 have:=x.isLt;simp only [U64,IntKind.wrap,IntKind.bits,IntKind.signed];simp;omega
theorem Df (x y:Int):bits .or .u64 x y=U64 (BitVec.ofInt 64 x|||BitVec.ofInt 64 y):=DK _
theorem sL (a:BitVec 64) (y:UInt8):bits .or .u64 (IntKind.u64.wrap (U64 a*256)) (IntKind.u64.wrap (U8 y))=U64 (a<<<8|||y.toBitVec.setWidth 64):=by
 rw [Df,nJ,nJ];congr 2
 .apply Wd;rw [Wp,BitVec.toNat_shiftLeft,Nat.shiftLeft_eq];unfold U64;omega
 .apply Wd;rw [Wp,XU];unfold U8;have h:y.toBitVec.toNat=y.toNat:=rfl;rw [h];omega
def NumR (w:World) (B:Nat) (q:RC) (f:Nat) (v4 v5:Value) (wr:World):Prop:=
 ∃(k:Nat),k+f=8/\v5= .int .i64 (56-8*(k:Int))/\v4= .int .u64 (U64 (rdB ((q.bs.drop q.at_).take k)))/\RAt wr B (q.to (q.at_+k))/\aJ (fun x=>x=q.c) w wr
theorem BQ (w:World) (B:Nat) (q:RC) (xb i:Nat) (cs:Array Value) (t:TypeId) (v:Int) (hq:RAt w B q) (hB:B<=w.heap.size) (hx:Blk w xb cs t) (hi:cs[i]? =some (.int .i64 v)) (hxB:B<=xb) (hxc:xb≠q.c):
  Calls prog 148 #[.pointer (some ⟨q.c,0,none⟩),.pointer (some ⟨xb,i,none⟩)] w fun e w'=>(q.bs.length<q.at_+8->e= .panicked (lU q.bs.length)/\gq w q w' xb t)/\
   (q.at_+8<=q.bs.length->e= .returned (.tuple #[])/\lO B w q w' (q.to (q.at_+8)) xb (cs.setIfInBounds i (.int .i64 (rdB ((q.bs.drop q.at_).take 8)).toInt)) t):=by
 have hxl:=hx.lt;have hmx:=hq.max;go_enter func148,ntmps148;go_wp2_with fail;go_loopg [4,5] 8 (NumR w B q)
 case atStart=>exact ⟨0,rfl,rfl,by simp [rdB,U64],hq,aJ.refl _ _⟩
 case round=>
  obtain ⟨k,hk,rfl,rfl,hqr,htr⟩:=hrel;have hxr:Blk wr xb cs t:=(htr.block xb hxl hxc).trans hx;have cx:wr.cell? ⟨xb,i,none⟩=some (.int .i64 v):=(hxr.rule i).trans hi;have hle:=hqr.le;unfold RC.to at hle;dsimp only at hle;have hBr:=At hB htr.size;by_cases hlt:k<8
  .have t0:decide ((0:Int)<=56-8*(k:Int))=true:=soA;have v3:(0:Int)<=56-8*(k:Int):=oA;have v4:(56-8*(k:Int)).toNat=56-8*k:=oA;have v5:IntKind.i64.wrap (56-8*(k:Int)-8)=56-8*((k+1:Nat):Int):=(by rw [VZ];omega);go_upto_region 5 with fail;obtain ⟨z,hzd⟩:=Le (IntKind.u64.wrap v/2^(56-8*k)%256);rw [<-hzd];clear hzd v4;have hb1:Below wr.heap.size wr (wr.alloc (.cells #[.int .u8 z] 5)):=(AT _ _).alloc (Lt _) _;have hy1:Blk (wr.alloc (.cells #[.int .u8 z] 5)) wr.heap.size #[.int .u8 z] 5:=Blk.new wr _ _;have cb:=LR _ B (q.to (q.at_+k)) wr.heap.size z (hqr.old hb1 hBr) (At hBr hb1.size) hy1 hBr;have hcc:(q.to (q.at_+k)).c=q.c:=rfl;rw [hcc] at cb;by_cases hmore:q.at_+k<q.bs.length
   .go_wp2_with fail;refine cb.mono ?_;clear cb;rintro e w2 ⟨-,hr⟩;obtain ⟨rfl,hg⟩:=hr hmore;have cy:=hg.blk.rule;obtain ⟨y,hyd⟩:=Le (q.bs[q.at_+k]);have cy2:w2.cell? ⟨wr.heap.size,0,none⟩=some (.int .u8 (U8 y)):=(by rw [hyd];exact cy 0);clear cy;have htk:(q.bs.drop q.at_).take (k+1)=(q.bs.drop q.at_).take k++ [y]:=by
     rw [VW (by rw [ldA];omega),hyd];simp
    have HTK:=Hd htk;have ht2:aJ (fun x=>x=q.c) w w2:=htr.trans ((aJ.of_below (F:=fun x=>x=q.c) hb1).trans hg.turn fun x hx=>by
     rcases hx with rfl|rfl
     .exact .inl rfl
     .exact .inr (Lt _)) fun _ hk=> .inl hk
    have hq2:RAt w2 B (q.to (q.at_+(k+1))):=hg.at';clear htk hyd hg hxr;go_wp2_with fail;go_roundg (gk-1)
    case measure=>omega
    case rel=>
     refine ⟨k+1,oA,gnA,?_,hq2,ht2⟩;rw [HTK.out,oq];exact WG _ (sL _ y)
   .go_wp2_with fail;refine cb.mono ?_;clear cb;rintro e w2 ⟨hr,-⟩;have hat:q.at_+k=q.bs.length:=oA;obtain ⟨rfl,hb2⟩:=hr hat;have hb3:gq w q w2 xb t:=gq.keep (htr.trans ((aJ.of_below (F:=fun x=>x=q.c) hb1).trans hb2.turn fun x hx=>by
     rcases hx with rfl|rfl
     .exact .inl rfl
     .exact .inr (Lt _)) fun _ hk=> .inl hk) hxc hxl
    have HAT:=Hd hat;clear hat;go_wp2_with fail;refine ⟨rfl,fun _=>⟨?_,hb3⟩,fun h=> ?_⟩
    .have e:(q.to (q.at_+k)).at_=q.bs.length:=HAT.out;rw [e]
    .have:=HAT.out;omega
  .have hk8:k=8:=oA;subst hk8;have cc:=hqr.blk.rule;unfold gR at cc;have hcc:(q.to (q.at_+8)).c=q.c:=rfl;rw [hcc] at cc;have fx:=hxr.free;have hn:=kN (rdB ((q.bs.drop q.at_).take 8));go_wp2_with fail;refine WF (v:= .tuple #[]) (Wx rfl _ _ _) rfl ⟨fun h=>by omega,fun _=>⟨rfl,?_⟩⟩;refine ⟨hqr.keep (VU _ _ _ _ (Vf hxc)) ((AT _ _).setCell hxB _),(htr.mono fun _ h=> .inl h).setCell (.inl (.inr rfl)) _,?_⟩;have:=hxr.set i (.int .i64 (rdB ((q.bs.drop q.at_).take 8)).toInt);exact this
end
end Go.Proofs.YtioigihakjlopaaGreat
