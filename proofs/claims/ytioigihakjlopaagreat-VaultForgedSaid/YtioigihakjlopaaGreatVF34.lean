import Derived.Test.YtioigihakjlopaaGreatVF33
namespace Go.Proofs.YtioigihakjlopaaGreat
open Go.Proofs.Tryz
set_option linter.unusedVariables false
set_option linter.unusedSimpArgs false
set_option maxHeartbeats 16000000
set_option maxRecDepth 100000
section
open Go.RowKit
def fD:List UInt8:=[109,97,115,116,101,114]
def vC:List UInt8:=[111,116,104,101,114]
def vb1:List UInt8:=[1,0,0,0,0,0,0,0,0,0,0,0,0,0,0,0,0,0,0,0,0,0,0,0,0,0,0,0,0,0,0,0,3,97,110,110,0,0,0,0,0,0,0,3,98,111,98,0,0,0,0,0,0,0,2,0,0,0,0,0,0,0,1,0,0,0,0,0,0,0,2,0,0,0,0,0,0,0,1,0,0,0,0,0,0,0,3,0,0,0,0,0,0,0,1,0,0,0,0,0,0,0,5]
def vck:Nat->BitVec 8:=ckB fD 0
def vcb (q:Nat):Nat->BitVec 8:=ctr (pO 0 0) q
theorem vk0:rk vck 0=lst [117#8,23#8,193#8,122#8,182#8,210#8,36#8,221#8,149#8,58#8,221#8,48#8,166#8,82#8,69#8,127#8]:=aK rfl dkA
theorem vrc0:rc 0=1#8:=rfl
theorem vrc1:rc 1=2#8:=by rw [rc,vrc0];decide+kernel
theorem vrc2:rc 2=4#8:=by rw [rc,vrc1];decide+kernel
theorem vrc3:rc 3=8#8:=by rw [rc,vrc2];decide+kernel
theorem vrc4:rc 4=16#8:=by rw [rc,vrc3];decide+kernel
theorem vrc5:rc 5=32#8:=by rw [rc,vrc4];decide+kernel
theorem vrc6:rc 6=64#8:=by rw [rc,vrc5];decide+kernel
theorem vrc7:rc 7=128#8:=by rw [rc,vrc6];decide+kernel
theorem vrc8:rc 8=27#8:=by rw [rc,vrc7];decide+kernel
theorem vrc9:rc 9=54#8:=by rw [rc,vrc8];decide+kernel
theorem vk1:rk vck 1=lst [116#8,121#8,19#8,94#8,194#8,171#8,55#8,131#8,87#8,145#8,234#8,179#8,241#8,195#8,175#8,204#8]:=by rw [rk,vk0,vrc0];exact aK rfl dkA
theorem vk2:rk vck 2=lst [88#8,0#8,88#8,255#8,154#8,171#8,111#8,124#8,205#8,58#8,133#8,207#8,60#8,249#8,42#8,3#8]:=by rw [rk,vk1,vrc1];exact aK rfl dkA
theorem vk3:rk vck 3=lst [197#8,229#8,35#8,20#8,95#8,78#8,76#8,104#8,146#8,116#8,201#8,167#8,174#8,141#8,227#8,164#8]:=by rw [rk,vk2,vrc2];exact aK rfl dkA
theorem vk4:rk vck 4=lst [144#8,244#8,106#8,240#8,207#8,186#8,38#8,152#8,93#8,206#8,239#8,63#8,243#8,67#8,12#8,155#8]:=by rw [rk,vk3,vrc3];exact aK rfl dkA
theorem vk5:rk vck 5=lst [154#8,10#8,126#8,253#8,85#8,176#8,88#8,101#8,8#8,126#8,183#8,90#8,251#8,61#8,187#8,193#8]:=by rw [rk,vk4,vrc4];exact aK rfl dkA
theorem vk6:rk vck 6=lst [157#8,224#8,6#8,242#8,200#8,80#8,94#8,151#8,192#8,46#8,233#8,205#8,59#8,19#8,82#8,12#8]:=by rw [rk,vk5,vrc5];exact aK rfl dkA
theorem vk7:rk vck 7=lst [160#8,224#8,248#8,16#8,104#8,176#8,166#8,135#8,168#8,158#8,79#8,74#8,147#8,141#8,29#8,70#8]:=by rw [rk,vk6,vrc6];exact aK rfl dkA
theorem vk8:rk vck 8=lst [125#8,68#8,162#8,204#8,21#8,244#8,4#8,75#8,189#8,106#8,75#8,1#8,46#8,231#8,86#8,71#8]:=by rw [rk,vk7,vrc7];exact aK rfl dkA
theorem vk9:rk vck 9=lst [242#8,245#8,2#8,253#8,231#8,1#8,6#8,182#8,90#8,107#8,77#8,183#8,116#8,140#8,27#8,240#8]:=by rw [rk,vk8,vrc8];exact aK rfl dkA
theorem Hb:rk vck 10=lst [160#8,90#8,142#8,111#8,71#8,91#8,136#8,217#8,29#8,48#8,197#8,110#8,105#8,188#8,222#8,158#8]:=by rw [rk,vk9,vrc9];exact aK rfl dkA
theorem Oj:bg vck (vcb 0) 0=lst [117#8,23#8,193#8,122#8,182#8,210#8,36#8,221#8,149#8,58#8,221#8,48#8,166#8,82#8,69#8,127#8]:=by rw [bg,vk0];exact aK rfl dkA
theorem Oi:bg vck (vcb 0) 1=lst [130#8,31#8,207#8,41#8,113#8,150#8,80#8,16#8,186#8,242#8,104#8,44#8,128#8,66#8,27#8,110#8]:=by rw [bg,Oj,rnd,vk1];exact aK rfl dkA
theorem Oh:bg vck (vcb 0) 2=lst [15#8,120#8,235#8,58#8,77#8,78#8,244#8,245#8,10#8,217#8,23#8,225#8,196#8,43#8,18#8,62#8]:=by rw [bg,Oi,rnd,vk2];exact aK rfl dkA
theorem Og:bg vck (vcb 0) 3=lst [26#8,116#8,76#8,46#8,148#8,7#8,136#8,177#8,91#8,44#8,167#8,193#8,14#8,208#8,53#8,104#8]:=by rw [bg,Oh,rnd,vk3];exact aK rfl dkA
theorem Of:bg vck (vcb 0) 4=lst [130#8,102#8,122#8,30#8,191#8,234#8,17#8,123#8,94#8,164#8,183#8,166#8,175#8,248#8,46#8,219#8]:=by rw [bg,Og,rnd,vk4];exact aK rfl dkA
theorem Oe:bg vck (vcb 0) 5=lst [62#8,85#8,115#8,143#8,221#8,11#8,237#8,225#8,128#8,240#8,98#8,107#8,250#8,155#8,130#8,179#8]:=by rw [bg,Of,rnd,vk5];exact aK rfl dkA
theorem Od:bg vck (vcb 0) 6=lst [88#8,140#8,103#8,100#8,190#8,212#8,160#8,182#8,10#8,185#8,38#8,241#8,84#8,93#8,168#8,44#8]:=by rw [bg,Oe,rnd,vk6];exact aK rfl dkA
theorem Oc:bg vck (vcb 0) 7=lst [42#8,105#8,188#8,243#8,84#8,172#8,4#8,124#8,121#8,187#8,167#8,182#8,62#8,255#8,122#8,251#8]:=by rw [bg,Od,rnd,vk7];exact aK rfl dkA
theorem Ob:bg vck (vcb 0) 8=lst [87#8,115#8,127#8,43#8,167#8,99#8,118#8,1#8,133#8,79#8,17#8,147#8,253#8,255#8,48#8,29#8]:=by rw [bg,Oc,rnd,vk8];exact aK rfl dkA
theorem Oa:bg vck (vcb 0) 9=lst [116#8,122#8,74#8,58#8,61#8,179#8,222#8,43#8,251#8,193#8,247#8,41#8,178#8,73#8,207#8,24#8]:=by rw [bg,Ob,rnd,vk9];exact aK rfl dkA
theorem Kw:bg vck (vcb 0) 10=lst [50#8,55#8,230#8,194#8,96#8,35#8,2#8,89#8,18#8,11#8,19#8,159#8,94#8,102#8,195#8,59#8]:=by rw [bg,Oa,rnd,Hb];exact aK rfl dkA
theorem NZ:bg vck (vcb 1) 0=lst [117#8,23#8,193#8,122#8,182#8,210#8,36#8,221#8,149#8,58#8,221#8,48#8,166#8,82#8,69#8,126#8]:=by rw [bg,vk0];exact aK rfl dkA
theorem NY:bg vck (vcb 1) 1=lst [163#8,62#8,172#8,107#8,113#8,150#8,80#8,16#8,186#8,242#8,104#8,44#8,128#8,66#8,27#8,110#8]:=by rw [bg,NZ,rnd,vk1];exact aK rfl dkA
theorem NX:bg vck (vcb 1) 2=lst [61#8,97#8,242#8,17#8,151#8,148#8,129#8,90#8,17#8,244#8,33#8,250#8,82#8,207#8,96#8,76#8]:=by rw [bg,NY,rnd,vk2];exact aK rfl dkA
theorem NW:bg vck (vcb 1) 3=lst [57#8,179#8,188#8,240#8,220#8,74#8,93#8,155#8,63#8,199#8,17#8,94#8,165#8,113#8,99#8,29#8]:=by rw [bg,NX,rnd,vk3];exact aK rfl dkA
theorem NV:bg vck (vcb 1) 4=lst [243#8,104#8,70#8,193#8,254#8,49#8,4#8,55#8,56#8,93#8,207#8,78#8,92#8,19#8,23#8,0#8]:=by rw [bg,NW,rnd,vk4];exact aK rfl dkA
theorem NU:bg vck (vcb 1) 5=lst [59#8,116#8,30#8,97#8,100#8,224#8,220#8,255#8,65#8,247#8,204#8,91#8,125#8,223#8,58#8,246#8]:=by rw [bg,NV,rnd,vk5];exact aK rfl dkA
theorem NT:bg vck (vcb 1) 6=lst [115#8,68#8,85#8,225#8,153#8,183#8,68#8,127#8,0#8,10#8,42#8,147#8,204#8,123#8,99#8,112#8]:=by rw [bg,NU,rnd,vk6];exact aK rfl dkA
theorem NS:bg vck (vcb 1) 7=lst [241#8,67#8,252#8,116#8,5#8,126#8,209#8,217#8,35#8,114#8,131#8,141#8,239#8,1#8,4#8,56#8]:=by rw [bg,NT,rnd,vk7];exact aK rfl dkA
theorem NR:bg vck (vcb 1) 8=lst [193#8,48#8,58#8,37#8,99#8,128#8,125#8,123#8,240#8,74#8,53#8,205#8,198#8,19#8,8#8,163#8]:=by rw [bg,NS,rnd,vk8];exact aK rfl dkA
theorem NQ:bg vck (vcb 1) 9=lst [210#8,167#8,158#8,58#8,100#8,34#8,10#8,56#8,127#8,167#8,196#8,135#8,73#8,151#8,146#8,173#8]:=by rw [bg,NR,rnd,vk9];exact aK rfl dkA
theorem Kv:bg vck (vcb 1) 10=lst [21#8,201#8,146#8,250#8,4#8,7#8,199#8,89#8,207#8,184#8,206#8,105#8,82#8,224#8,185#8,137#8]:=by rw [bg,NQ,rnd,Hb];exact aK rfl dkA
theorem NP:bg vck (vcb 2) 0=lst [117#8,23#8,193#8,122#8,182#8,210#8,36#8,221#8,149#8,58#8,221#8,48#8,166#8,82#8,69#8,125#8]:=by rw [bg,vk0];exact aK rfl dkA
theorem NO:bg vck (vcb 2) 1=lst [175#8,50#8,184#8,115#8,113#8,150#8,80#8,16#8,186#8,242#8,104#8,44#8,128#8,66#8,27#8,110#8]:=by rw [bg,NP,rnd,vk1];exact aK rfl dkA
theorem NN:bg vck (vcb 2) 2=lst [219#8,18#8,129#8,132#8,103#8,100#8,138#8,161#8,236#8,232#8,192#8,7#8,250#8,246#8,241#8,221#8]:=by rw [bg,NO,rnd,vk2];exact aK rfl dkA
theorem NM:bg vck (vcb 2) 3=lst [18#8,206#8,238#8,164#8,6#8,65#8,234#8,120#8,237#8,24#8,11#8,196#8,15#8,110#8,175#8,245#8]:=by rw [bg,NN,rnd,vk3];exact aK rfl dkA
theorem NL:bg vck (vcb 2) 4=lst [74#8,187#8,71#8,207#8,205#8,86#8,205#8,111#8,217#8,122#8,170#8,20#8,2#8,182#8,192#8,53#8]:=by rw [bg,NM,rnd,vk4];exact aK rfl dkA
theorem NK:bg vck (vcb 2) 5=lst [223#8,220#8,251#8,182#8,113#8,253#8,213#8,214#8,184#8,132#8,116#8,160#8,119#8,163#8,82#8,224#8]:=by rw [bg,NL,rnd,vk5];exact aK rfl dkA
theorem NJ:bg vck (vcb 2) 6=lst [53#8,154#8,203#8,84#8,58#8,3#8,112#8,170#8,255#8,177#8,144#8,139#8,184#8,20#8,28#8,86#8]:=by rw [bg,NK,rnd,vk6];exact aK rfl dkA
theorem NI:bg vck (vcb 2) 7=lst [203#8,145#8,29#8,211#8,140#8,36#8,173#8,8#8,34#8,234#8,114#8,214#8,244#8,68#8,44#8,97#8]:=by rw [bg,NJ,rnd,vk7];exact aK rfl dkA
theorem NH:bg vck (vcb 2) 8=lst [182#8,24#8,33#8,94#8,88#8,112#8,175#8,221#8,57#8,8#8,192#8,112#8,176#8,19#8,88#8,126#8]:=by rw [bg,NI,rnd,vk8];exact aK rfl dkA
theorem NG:bg vck (vcb 2) 9=lst [212#8,63#8,124#8,57#8,81#8,237#8,96#8,226#8,197#8,94#8,155#8,152#8,101#8,240#8,80#8,180#8]:=by rw [bg,NH,rnd,vk9];exact aK rfl dkA
theorem Ku:bg vck (vcb 2) 10=lst [232#8,15#8,154#8,226#8,150#8,3#8,219#8,203#8,187#8,188#8,213#8,246#8,36#8,201#8,14#8,216#8]:=by rw [bg,NG,rnd,Hb];exact aK rfl dkA
theorem NF:bg vck (vcb 3) 0=lst [117#8,23#8,193#8,122#8,182#8,210#8,36#8,221#8,149#8,58#8,221#8,48#8,166#8,82#8,69#8,124#8]:=by rw [bg,vk0];exact aK rfl dkA
theorem ND:bg vck (vcb 3) 1=lst [64#8,221#8,146#8,182#8,113#8,150#8,80#8,16#8,186#8,242#8,104#8,44#8,128#8,66#8,27#8,110#8]:=by rw [bg,NF,rnd,vk1];exact aK rfl dkA
theorem NC:bg vck (vcb 3) 2=lst [59#8,98#8,241#8,20#8,166#8,165#8,210#8,56#8,207#8,141#8,134#8,36#8,199#8,41#8,19#8,63#8]:=by rw [bg,ND,rnd,vk2];exact aK rfl dkA
theorem NB:bg vck (vcb 3) 3=lst [33#8,178#8,208#8,129#8,119#8,173#8,218#8,203#8,207#8,80#8,182#8,40#8,95#8,246#8,164#8,134#8]:=by rw [bg,NC,rnd,vk3];exact aK rfl dkA
theorem NA:bg vck (vcb 3) 4=lst [223#8,174#8,82#8,191#8,142#8,62#8,6#8,158#8,251#8,79#8,230#8,182#8,76#8,47#8,6#8,217#8]:=by rw [bg,NB,rnd,vk4];exact aK rfl dkA
theorem Nz:bg vck (vcb 3) 5=lst [203#8,87#8,10#8,18#8,151#8,3#8,3#8,181#8,34#8,80#8,176#8,72#8,191#8,56#8,122#8,173#8]:=by rw [bg,NA,rnd,vk5];exact aK rfl dkA
theorem Ny:bg vck (vcb 3) 6=lst [92#8,174#8,19#8,126#8,37#8,194#8,106#8,20#8,70#8,207#8,215#8,178#8,239#8,114#8,1#8,144#8]:=by rw [bg,Nz,rnd,vk6];exact aK rfl dkA
theorem Nx:bg vck (vcb 3) 7=lst [53#8,146#8,43#8,37#8,28#8,247#8,229#8,205#8,91#8,57#8,186#8,118#8,52#8,176#8,123#8,180#8]:=by rw [bg,Ny,rnd,vk7];exact aK rfl dkA
theorem Nw:bg vck (vcb 3) 8=lst [139#8,136#8,35#8,240#8,30#8,16#8,137#8,185#8,177#8,51#8,176#8,61#8,46#8,41#8,224#8,137#8]:=by rw [bg,Nx,rnd,vk8];exact aK rfl dkA
theorem Nv:bg vck (vcb 3) 9=lst [141#8,210#8,210#8,194#8,48#8,90#8,225#8,1#8,85#8,206#8,150#8,219#8,193#8,251#8,210#8,142#8]:=by rw [bg,Nw,rnd,vk9];exact aK rfl dkA
theorem Kt:bg vck (vcb 3) 10=lst [253#8,228#8,30#8,118#8,67#8,208#8,61#8,252#8,225#8,63#8,112#8,18#8,17#8,9#8,38#8,39#8]:=by rw [bg,Nv,rnd,Hb];exact aK rfl dkA
theorem Nu:bg vck (vcb 4) 0=lst [117#8,23#8,193#8,122#8,182#8,210#8,36#8,221#8,149#8,58#8,221#8,48#8,166#8,82#8,69#8,123#8]:=by rw [bg,vk0];exact aK rfl dkA
theorem Nt:bg vck (vcb 4) 1=lst [113#8,236#8,193#8,212#8,113#8,150#8,80#8,16#8,186#8,242#8,104#8,44#8,128#8,66#8,27#8,110#8]:=by rw [bg,Nu,rnd,vk1];exact aK rfl dkA
theorem Ns:bg vck (vcb 4) 2=lst [116#8,200#8,91#8,241#8,160#8,163#8,216#8,52#8,248#8,212#8,232#8,19#8,214#8,55#8,28#8,48#8]:=by rw [bg,Nt,rnd,vk2];exact aK rfl dkA
theorem Nr:bg vck (vcb 4) 3=lst [123#8,209#8,154#8,32#8,97#8,32#8,63#8,222#8,132#8,73#8,72#8,247#8,102#8,110#8,184#8,214#8]:=by rw [bg,Ns,rnd,vk3];exact aK rfl dkA
theorem Nq:bg vck (vcb 4) 4=lst [180#8,160#8,89#8,129#8,156#8,32#8,232#8,144#8,252#8,122#8,99#8,195#8,202#8,251#8,83#8,85#8]:=by rw [bg,Nr,rnd,vk4];exact aK rfl dkA
theorem Np:bg vck (vcb 4) 5=lst [94#8,24#8,182#8,222#8,102#8,225#8,137#8,51#8,201#8,246#8,37#8,149#8,157#8,10#8,112#8,122#8]:=by rw [bg,Nq,rnd,vk5];exact aK rfl dkA
theorem No:bg vck (vcb 4) 6=lst [219#8,200#8,173#8,114#8,36#8,9#8,170#8,235#8,69#8,44#8,145#8,5#8,230#8,212#8,138#8,176#8]:=by rw [bg,Np,rnd,vk6];exact aK rfl dkA
theorem Nn:bg vck (vcb 4) 7=lst [172#8,36#8,107#8,149#8,169#8,166#8,221#8,82#8,208#8,45#8,120#8,236#8,112#8,76#8,133#8,93#8]:=by rw [bg,No,rnd,vk7];exact aK rfl dkA
theorem Nm:bg vck (vcb 4) 8=lst [216#8,14#8,160#8,100#8,102#8,4#8,68#8,62#8,89#8,201#8,236#8,199#8,217#8,76#8,225#8,196#8]:=by rw [bg,Nn,rnd,vk8];exact aK rfl dkA
theorem Nl:bg vck (vcb 4) 9=lst [239#8,62#8,50#8,90#8,70#8,195#8,198#8,64#8,254#8,123#8,185#8,71#8,37#8,31#8,226#8,136#8]:=by rw [bg,Nm,rnd,vk9];exact aK rfl dkA
theorem Ks:bg vck (vcb 4) 10=lst [127#8,116#8,216#8,171#8,29#8,122#8,16#8,103#8,166#8,240#8,230#8,103#8,86#8,14#8,106#8,62#8]:=by rw [bg,Nl,rnd,Hb];exact aK rfl dkA
theorem Nk:bg vck (vcb 5) 0=lst [117#8,23#8,193#8,122#8,182#8,210#8,36#8,221#8,149#8,58#8,221#8,48#8,166#8,82#8,69#8,122#8]:=by rw [bg,vk0];exact aK rfl dkA
theorem Nj:bg vck (vcb 5) 1=lst [138#8,23#8,215#8,57#8,113#8,150#8,80#8,16#8,186#8,242#8,104#8,44#8,128#8,66#8,27#8,110#8]:=by rw [bg,Nk,rnd,vk1];exact aK rfl dkA
theorem Ni:bg vck (vcb 5) 2=lst [213#8,21#8,134#8,141#8,250#8,249#8,54#8,128#8,142#8,78#8,4#8,101#8,148#8,75#8,34#8,14#8]:=by rw [bg,Nj,rnd,vk2];exact aK rfl dkA
theorem Nh:bg vck (vcb 5) 3=lst [42#8,105#8,160#8,55#8,186#8,206#8,148#8,25#8,231#8,17#8,167#8,250#8,73#8,95#8,69#8,4#8]:=by rw [bg,Ni,rnd,vk3];exact aK rfl dkA
theorem Ng:bg vck (vcb 5) 4=lst [105#8,10#8,177#8,236#8,85#8,121#8,57#8,92#8,16#8,48#8,8#8,4#8,154#8,218#8,253#8,87#8]:=by rw [bg,Nh,rnd,vk4];exact aK rfl dkA
theorem Nf:bg vck (vcb 5) 5=lst [217#8,143#8,188#8,221#8,32#8,118#8,65#8,173#8,252#8,19#8,127#8,20#8,217#8,143#8,77#8,152#8]:=by rw [bg,Ng,rnd,vk5];exact aK rfl dkA
theorem Nd:bg vck (vcb 5) 6=lst [43#8,142#8,126#8,203#8,24#8,226#8,17#8,82#8,222#8,66#8,68#8,33#8,189#8,164#8,28#8,76#8]:=by rw [bg,Nf,rnd,vk6];exact aK rfl dkA
theorem Nc:bg vck (vcb 5) 7=lst [216#8,62#8,220#8,201#8,222#8,229#8,37#8,229#8,186#8,31#8,230#8,215#8,51#8,165#8,125#8,178#8]:=by rw [bg,Nd,rnd,vk7];exact aK rfl dkA
theorem Nb:bg vck (vcb 5) 8=lst [118#8,50#8,68#8,86#8,86#8,181#8,64#8,242#8,27#8,218#8,222#8,47#8,79#8,20#8,75#8,136#8]:=by rw [bg,Nc,rnd,vk8];exact aK rfl dkA
theorem Na:bg vck (vcb 5) 9=lst [63#8,159#8,130#8,238#8,101#8,97#8,85#8,227#8,152#8,143#8,174#8,181#8,30#8,64#8,145#8,103#8]:=by rw [bg,Nb,rnd,vk9];exact aK rfl dkA
theorem Kr:bg vck (vcb 5) 10=lst [213#8,181#8,106#8,234#8,10#8,40#8,9#8,241#8,91#8,57#8,214#8,127#8,27#8,103#8,34#8,75#8]:=by rw [bg,Na,rnd,Hb];exact aK rfl dkA
theorem MZ:bg vck (vcb 6) 0=lst [117#8,23#8,193#8,122#8,182#8,210#8,36#8,221#8,149#8,58#8,221#8,48#8,166#8,82#8,69#8,121#8]:=by rw [bg,vk0];exact aK rfl dkA
theorem MY:bg vck (vcb 6) 1=lst [230#8,123#8,99#8,225#8,113#8,150#8,80#8,16#8,186#8,242#8,104#8,44#8,128#8,66#8,27#8,110#8]:=by rw [bg,MZ,rnd,vk1];exact aK rfl dkA
theorem MX:bg vck (vcb 6) 2=lst [46#8,229#8,118#8,134#8,16#8,19#8,19#8,79#8,123#8,74#8,245#8,144#8,252#8,242#8,243#8,223#8]:=by rw [bg,MY,rnd,vk2];exact aK rfl dkA
theorem MW:bg vck (vcb 6) 3=lst [88#8,129#8,1#8,251#8,248#8,96#8,134#8,126#8,236#8,144#8,134#8,102#8,184#8,115#8,208#8,11#8]:=by rw [bg,MX,rnd,vk3];exact aK rfl dkA
theorem MV:bg vck (vcb 6) 4=lst [64#8,194#8,37#8,140#8,146#8,164#8,246#8,85#8,223#8,114#8,88#8,120#8,72#8,200#8,177#8,1#8]:=by rw [bg,MW,rnd,vk4];exact aK rfl dkA
theorem MU:bg vck (vcb 6) 5=lst [69#8,83#8,110#8,61#8,167#8,88#8,112#8,244#8,207#8,150#8,160#8,215#8,206#8,95#8,151#8,51#8]:=by rw [bg,MV,rnd,vk5];exact aK rfl dkA
theorem MT:bg vck (vcb 6) 6=lst [220#8,162#8,135#8,87#8,116#8,147#8,240#8,37#8,165#8,36#8,83#8,125#8,69#8,164#8,132#8,42#8]:=by rw [bg,MU,rnd,vk6];exact aK rfl dkA
theorem MS:bg vck (vcb 6) 7=lst [192#8,12#8,87#8,97#8,9#8,244#8,81#8,245#8,87#8,12#8,111#8,96#8,114#8,231#8,80#8,167#8]:=by rw [bg,MT,rnd,vk7];exact aK rfl dkA
theorem MR:bg vck (vcb 6) 8=lst [60#8,36#8,8#8,182#8,178#8,8#8,119#8,32#8,17#8,9#8,3#8,244#8,182#8,248#8,58#8,19#8]:=by rw [bg,MS,rnd,vk8];exact aK rfl dkA
theorem MQ:bg vck (vcb 6) 9=lst [105#8,142#8,168#8,106#8,68#8,225#8,249#8,242#8,1#8,140#8,44#8,46#8,248#8,21#8,72#8,132#8]:=by rw [bg,MR,rnd,vk9];exact aK rfl dkA
theorem Kq:bg vck (vcb 6) 10=lst [89#8,162#8,255#8,48#8,92#8,63#8,218#8,219#8,97#8,105#8,7#8,231#8,40#8,165#8,71#8,175#8]:=by rw [bg,MQ,rnd,Hb];exact aK rfl dkA
def vc1:List UInt8:=[51,55,230,194,96,35,2,89,18,11,19,159,94,102,195,59,21,201,146,250,4,7,199,89,207,184,206,105,82,224,185,137,235,110,244,140,150,3,219,203,187,188,213,245,70,166,108,216,253,228,30,118,67,208,63,252,225,63,112,18,17,9,39,39,127,116,216,171,29,122,18,103,166,240,230,103,86,14,107,62,213,181,106,234,10,40,10,241,91,57,214,127,27,103,35,75,89,162,255,48,92,63,223]
def vks:List (BitVec 8):=[50#8,55#8,230#8,194#8,96#8,35#8,2#8,89#8,18#8,11#8,19#8,159#8,94#8,102#8,195#8,59#8,21#8,201#8,146#8,250#8,4#8,7#8,199#8,89#8,207#8,184#8,206#8,105#8,82#8,224#8,185#8,137#8,232#8,15#8,154#8,226#8,150#8,3#8,219#8,203#8,187#8,188#8,213#8,246#8,36#8,201#8,14#8,216#8,253#8,228#8,30#8,118#8,67#8,208#8,61#8,252#8,225#8,63#8,112#8,18#8,17#8,9#8,38#8,39#8,127#8,116#8,216#8,171#8,29#8,122#8,16#8,103#8,166#8,240#8,230#8,103#8,86#8,14#8,106#8,62#8,213#8,181#8,106#8,234#8,10#8,40#8,9#8,241#8,91#8,57#8,214#8,127#8,27#8,103#8,34#8,75#8,89#8,162#8,255#8,48#8,92#8,63#8,218#8,219#8,97#8,105#8,7#8,231#8,40#8,165#8,71#8,175#8]
theorem Om (i:Nat) (h:i<103):ksb (ckB fD 0) (pO 0 0) i=vks.getD i 0#8:=by
 have hq:i/16=0\/i/16=1\/i/16=2\/i/16=3\/i/16=4\/i/16=5\/i/16=6:=oA;have hr:i=16*(i/16)+i%16:=oA;have hm:i%16<16:=oA;rw [ksb];generalize i%16=r at*;generalize i/16=q at*;subst hr;rcases hq with rfl|rfl|rfl|rfl|rfl|rfl|rfl
 .exact (Wn Kw r).trans ((by decide+kernel:∀r,r<16->lst [50#8,55#8,230#8,194#8,96#8,35#8,2#8,89#8,18#8,11#8,19#8,159#8,94#8,102#8,195#8,59#8] r=vks.getD (16*0+r) 0#8) r hm)
 .exact (Wn Kv r).trans ((by decide+kernel:∀r,r<16->lst [21#8,201#8,146#8,250#8,4#8,7#8,199#8,89#8,207#8,184#8,206#8,105#8,82#8,224#8,185#8,137#8] r=vks.getD (16*1+r) 0#8) r hm)
 .exact (Wn Ku r).trans ((by decide+kernel:∀r,r<16->lst [232#8,15#8,154#8,226#8,150#8,3#8,219#8,203#8,187#8,188#8,213#8,246#8,36#8,201#8,14#8,216#8] r=vks.getD (16*2+r) 0#8) r hm)
 .exact (Wn Kt r).trans ((by decide+kernel:∀r,r<16->lst [253#8,228#8,30#8,118#8,67#8,208#8,61#8,252#8,225#8,63#8,112#8,18#8,17#8,9#8,38#8,39#8] r=vks.getD (16*3+r) 0#8) r hm)
 .exact (Wn Ks r).trans ((by decide+kernel:∀r,r<16->lst [127#8,116#8,216#8,171#8,29#8,122#8,16#8,103#8,166#8,240#8,230#8,103#8,86#8,14#8,106#8,62#8] r=vks.getD (16*4+r) 0#8) r hm)
 .exact (Wn Kr r).trans ((by decide+kernel:∀r,r<16->lst [213#8,181#8,106#8,234#8,10#8,40#8,9#8,241#8,91#8,57#8,214#8,127#8,27#8,103#8,34#8,75#8] r=vks.getD (16*5+r) 0#8) r hm)
 .exact (Wn Kq r).trans ((by decide+kernel:∀r,r<16->lst [89#8,162#8,255#8,48#8,92#8,63#8,218#8,219#8,97#8,105#8,7#8,231#8,40#8,165#8,71#8,175#8] r=vks.getD (16*6+r) 0#8) r hm)
theorem Kx:stm (ckB fD 0) (pO 0 0) vb1=vc1:=by
 have e:(List.range 103).map (fun i=>(⟨(vb1.getD i 0).toBitVec^^^ksb (ckB fD 0) (pO 0 0) i⟩:UInt8))=(List.range 103).map (fun i=>(⟨(vb1.getD i 0).toBitVec^^^vks.getD i 0#8⟩:UInt8)):=by
  apply WS;intro i hi;rw [Om i (Wk.1 hi)]
 show (List.range 103).map (fun i=>(⟨(vb1.getD i 0).toBitVec^^^ksb (ckB fD 0) (pO 0 0) i⟩:UInt8))=_;rw [e];decide+kernel
def vtk:List UInt8:=[146,182,194,240,56,84,212,204,118,255,119,159,82,222,77,91,226,116,142,60,120,226,214,158,113,49,199,38,54,110,192,222]
def MP:List UInt8:=[210,23,92,134,84,18,110,108,122,230,167,82,18,124,43,188,174,25,207,70,231,65,42,226,91,253,215,146,76,175,197,252]
theorem v_tk:tkL fD 0=vtk:=by decide+kernel
theorem Ol:tkL vC 0=MP:=by decide+kernel
theorem Ky:dgb (uR vtk (eJ 0++eJ 0++vc1)) 0=253:=by decide+kernel
theorem Hc:dgb (uR MP (eJ 0++eJ 0++vc1)) 0=188:=by decide+kernel
end
section
open Go.RowKit
theorem vD (m:List UInt8) (g n:Nat) (b:List UInt8) (h:b.length<=65504):fl m g n (gI m g n b)=(b,0):=by
 have e1:(gI m g n b).length-32=(stm (ckB m g) (pO g n) b).length:=(by rw [ef,eX];omega);have e2:(gI m g n b).take ((gI m g n b).length-32)=stm (ckB m g) (pO g n) b:=(by rw [e1,gI,List.take_left]);have e3:(gI m g n b).drop ((gI m g n b).length-32)=dgl (jH m g n (stm (ckB m g) (pO g n) b)):=(by rw [e1,gI,List.drop_left]);unfold fl;rw [e2,e3,if_pos ⟨by rw [ef];omega,by rw [ef];omega,rfl⟩,Ho]
theorem iV (m:List UInt8) (l:List ao) (x:ao):(iG m l x).length=(bZ x).length+40:=by
 unfold iG;rw [laA,au,ef];omega
theorem yi (m:List UInt8) (l:List ao) (x:ao) (hk:OkD x):be ⟨iG m l x,false⟩=(x.game,⟨gI m x.game.toNat (ofG l x.game).length (bZ x),false⟩):=gi.back x.game _ false hk.game
theorem Jb {l:List ao} {x:ao} (hf:bp l x=true):0<=x.game/\x.game<=(aP l:Int):=by
 have h:=eU hf;refine ⟨h.1,?_⟩;by_cases hk:x.kind=1
 .have:=h.2.2.2 hk;omega
 .have:=h.2.2.1 hk;omega
theorem pi {m:List UInt8} {l:List ao} {x:ao} (hm:il x=true) (hf:bp l x=true) (hk:OkD x) (hz:(bZ x).length<=65504):br m l (iG m l x)=(x,true):=by
 have hg:=Jb hf;unfold br;rw [yi m l x hk];dsimp only;rw [if_neg soA,vD m _ _ _ hz,if_neg skA,BA x hk hm];simp [hf]
def ee (nm:bz) (b:List UInt8) (s:Nat):aM:=⟨[⟨nm,b,s⟩],false,false,0,[]⟩
section
variable {nm:bz} {b l:List UInt8} {s:Nat}
theorem ow:eW (ee nm b s) nm=some ⟨nm,b,s⟩:=by simp [eW,ee]
theorem kK:bG (ee nm b s) nm=(b,0):=jC rfl ow
theorem rv (h:b.length+l.length<=1048576):bt (ee nm b s) nm l=(ee nm (b++l) s,0):=by
 unfold bt lH;rw [ow,if_neg (by simp [ee])];dsimp only;rw [if_neg (by unfold fh;omega)];simp [dz,jQ,AN,ee]
theorem ov:eL (ee nm b s) nm=(ee nm b b.length,0):=by
 unfold eL lH;rw [ow,if_neg (by simp [ee])];simp [dz,jQ,AN,ee]
theorem wu {k:Nat} (h:k<=b.length):jh (ee nm b s) nm (k:Int)=(ee nm (b.take k) k,0):=by
 unfold jh lH;rw [ow,if_neg (by simp [ee])];dsimp only;rw [if_neg oA];simp [jQ,AN,ee]
theorem Eb {ls:List (List UInt8)} (hf:Kc ls) (hl:ls.length<=4096):scan iU (asQ ls)=(ls,[]):=by
 have hsc:=nC iU ls [] hf (by rw [je];exact hl);have e0:scan (iU-ls.length) []=([],[]):=gO (iy skA);rw [Wq,e0] at hsc;simpa using hsc
theorem sO {ls:List (List UInt8)} (hf:Kc ls) (hl:ls.length<=4096):dH (ee nm (asQ ls) s) nm=0/\fU (ee nm (asQ ls) s) nm=ee nm (asQ ls) (asQ ls).length/\cW (ee nm (asQ ls) s) nm=(ls,[])/\ii (ee nm (asQ ls) s) nm=0:=by
 have hB:cW (ee nm (asQ ls) s) nm=(ls,[]):=by
  unfold cW;rw [kK];exact Eb hf hl
 have hM:bS (ee nm (asQ ls) s) nm=(ee nm (asQ ls) s,0):=by
  unfold bS;rw [kK];rfl
 have hC:aY (ee nm (asQ ls) s) nm=(ee nm (asQ ls) s,0):=by
  unfold aY;rw [hB,if_pos (show ([]:List UInt8).length=0 from rfl),hM]
 have hS:dD (ee nm (asQ ls) s) nm=(ee nm (asQ ls) (asQ ls).length,0):=by
  unfold dD;rw [hC];exact ov
 have hE:dH (ee nm (asQ ls) s) nm=0:=by
  unfold dH;rw [hM,hC,hS];rfl
 refine ⟨hE,?_,hB,?_⟩
 .unfold fU;rw [hM,hC,hS];rfl
 .unfold ii;rw [if_pos hE,hB];rfl
end
theorem EG {nm:bz} (hn:cZ nm=true):dH wk0 nm=0/\fU wk0 nm=ee nm [] 0/\cW wk0 nm=([],[])/\ii wk0 nm=0:=by
 have hr:bG wk0 nm=([],4):=rfl;have hB:cW wk0 nm=([],[]):=by
  unfold cW;rw [hr];exact gO (iy skA)
 have hM:bS wk0 nm=(ee nm [] 0,0):=by
  unfold bS;rw [hr,if_pos rfl];unfold ew;rw [if_neg (by simp [wk0]),if_neg (by simp [hn]),if_neg (by simp [eW,wk0]),if_neg (by simp [wk0])];rfl
 have hC:aY wk0 nm=(ee nm [] 0,0):=by
  unfold aY;rw [hB,if_pos (show ([]:List UInt8).length=0 from rfl),hM]
 have hS:dD wk0 nm=(ee nm [] 0,0):=by
  unfold dD;rw [hC];exact ov
 have hE:dH wk0 nm=0:=by
  unfold dH;rw [hM,hC,hS];rfl
 refine ⟨hE,?_,hB,?_⟩
 .unfold fU;rw [hM,hC,hS];rfl
 .unfold ii;rw [if_pos hE,hB];rfl
theorem uI {nm:bz} (hn:cZ nm=true) (m:List UInt8):kV wk0 nm m=0/\sg wk0 nm m=ee nm [] 0/\nA wk0 nm m=[]/\qB wk0 nm m=0/\qH wk0 nm m=[]:=by
 obtain ⟨h1,h2,h3,h4⟩:=EG hn;have hL:nA wk0 nm m=[]:=(by unfold nA;rw [h3];rfl);have hF:ej wk0 nm m=true:=(by unfold ej;rw [hL,h3];rfl);refine ⟨?_,?_,hL,?_,?_⟩
 .unfold kV;rw [h1,if_neg skA,if_pos hF]
 .unfold sg;rw [h1,if_neg skA,if_pos hF,h2]
 .unfold qB;rw [if_pos hF,h4]
 .unfold qH;rw [h3];simp
theorem BO {nm:bz} {b:List UInt8} {s:Nat} {V:aV} {x:ao} (hnm:V.R.nm=nm) (hd:V.down=false) (hm:il x=true) (hf:bp V.l x=true) (hz:(bZ x).length<=65000) (hl:V.R.ls.length<4096) (hb:b.length+(bZ x).length+48<=1048576):
  qM (ee nm b s) V x=0/\xS (ee nm b s) V x=ee nm (b++bj (iG V.m V.l x)) (b++bj (iG V.m V.l x)).length/\mm (ee nm b s) V x=V.R.ls++ [iG V.m V.l x]/\mo (ee nm b s) V x=false:=by
 have hlen:=iV V.m V.l x;have hr:gz (iG V.m V.l x).length=0:=(by unfold gz;rw [if_neg oA,if_neg oA]);have happ:=rv (nm:=nm) (b:=b) (s:=s) (l:=bj (iG V.m V.l x)) (by rw [bM];omega);have hA:xT (ee nm b s) V x=0:=by
  unfold xT jT;rw [hr,if_neg skA,if_neg oA,hnm,happ]
 have hD:nj (ee nm b s) V.R (iG V.m V.l x)=ee nm (b++bj (iG V.m V.l x)) s:=by
  unfold nj;rw [hr,if_neg skA,if_neg oA,hnm,happ]
 have hS:Eu (ee nm b s) V x=(ee nm (b++bj (iG V.m V.l x)) (b++bj (iG V.m V.l x)).length,0):=by
  unfold Eu;rw [hD,hnm];exact ov
 have h1:¬V.down=true:=(by simp [hd]);have h2:¬jF V x=false:=(by unfold jF;simp [hm,hf]);have h3:¬65504<(bZ x).length:=oA;have h4:¬xT (ee nm b s) V x≠0:=(by simp [hA]);refine ⟨?_,?_,?_,?_⟩
 .unfold qM;rw [if_neg h1,if_neg h2,if_neg h3,if_neg h4,hS]
 .unfold xS;rw [if_neg h1,if_neg h2,if_neg h3,if_neg h4,hS]
 .unfold mm;rw [if_neg h1,if_neg h2,if_neg h3,if_neg h4]
 .unfold mo;rw [if_neg h1,if_neg h2,if_neg h3,if_neg h4,hS];rfl
def nmJ:bz:=⟨#[106,111,117,114,110,97,108]⟩
def vj:ao:=⟨1,0,0,emN,⟨#[97,110,110]⟩,⟨#[98,111,98]⟩,[1,2],[3],[5],dG⟩
def JD:ao:=⟨2,5,0,emN,emN,emN,[],[],[],dG⟩
def givA:bq:={dG with op:=4}
def zU:ao:=⟨2,0,0,emN,emN,emN,[],[],[],givA⟩
theorem okJ:cZ nmJ=true:=dcA
theorem BW:il vj=true:=by decide+kernel
theorem BV:il zU=true:=by decide+kernel
theorem CB:bp [] vj=true:=dcA
theorem Je:bp [vj] JD=false:=dcA
theorem CA:bp [vj] zU=true:=dcA
theorem ye:ox dG:=by
 refine ⟨?_,?_,?_,?_,?_,?_⟩
 all_goals first|(unfold wf8 eO;decide)|(unfold wf8;decide)|(unfold eO;decide)|(refine ⟨fun x hx=> ?_,?_⟩<;>first|(cases hx;done)|(unfold eO;decide)|decide)
theorem jr {l:List Int} (h:∀x∈l,0<=x/\x<=1000) (hl:l.length<=1000):okL l:=by
 refine ⟨fun x hx=> ?_,gG oA⟩;have:=h x hx;obtain ⟨n,rfl⟩:∃n:Nat,x=(n:Int):=⟨x.toNat,oA⟩;exact gG oA
theorem nI:OkD vj:=by
 refine ⟨by unfold wf8;decide,by unfold eO;decide,by unfold eO;decide,by unfold qJ;decide,by unfold qJ;decide,by unfold qJ;decide,jr dcA dcA,jr dcA dcA,jr dcA dcA,ye⟩
theorem KU:OkD zU:=by
 have h:=ye;refine ⟨by unfold wf8;decide,by unfold eO;decide,by unfold eO;decide,by unfold qJ;decide,by unfold qJ;decide,by unfold qJ;decide,jr dcA dcA,jr dcA dcA,jr dcA dcA,?_⟩;exact ⟨by unfold wf8;decide,h.2⟩
theorem kA:bZ vj=vb1:=by decide+kernel
theorem sY:(bZ zU).length<=100:=by decide+kernel
def L1:List UInt8:=iG fD [] vj
def L2:List UInt8:=iG fD [vj] zU
theorem Dw:L1.length=143:=by unfold L1;rw [iV,kA];rfl
theorem wm:br vC [] L1=(jY,false):=by
 have hop:fl vC 0 0 (gI fD 0 0 vb1)=([],60):=by
  have hl:vb1.length=103:=rfl;have hsl:(gI fD 0 0 vb1).length=135:=(by rw [ef,hl]);have e1:(gI fD 0 0 vb1).length-32=(stm (ckB fD 0) (pO 0 0) vb1).length:=(by rw [ef,eX];omega);have e2:(gI fD 0 0 vb1).take ((gI fD 0 0 vb1).length-32)=vc1:=(by rw [e1,gI,List.take_left,Kx]);have e3:(gI fD 0 0 vb1).drop ((gI fD 0 0 vb1).length-32)=dgl (jH fD 0 0 vc1):=(by rw [e1,gI,List.drop_left,Kx]);unfold fl;rw [e2,e3,if_neg];rintro ⟨_,_,h⟩;have h0:=WG (fun l=>l.getD 0 0) h;unfold jH at h0;rw [v_tk,Ol] at h0;have h1:dgb (uR vtk (eJ 0++eJ 0++vc1)) 0=dgb (uR MP (eJ 0++eJ 0++vc1)) 0:=(by simpa [dgl] using h0);rw [Ky,Hc] at h1;exact absurd h1 dcA
 have hn:be ⟨L1,false⟩=(0,⟨gI fD 0 0 vb1,false⟩):=by
  have h:=yi fD [] vj nI;rw [kA] at h;exact h
 generalize gI fD 0 0 vb1=S at hop hn;have hop':fl vC (Int.toNat 0) (ofG ([]:List ao) 0).length S=([],60):=hop;unfold br;rw [hn];dsimp only;rw [if_neg dcA]
 first
  |rw [hop']
  |rw [hop]
 rw [if_pos dcA]
theorem Mw:L2.length=(bZ zU).length+40:=iV _ _ _
theorem AG:Kc [L1,L2]:=by
 intro l hl;have h1:=Dw;have h2:=Mw;have h3:=sY;rcases Ve.1 hl with rfl|hl
 .omega
 .rw [VH.1 hl];omega
theorem GY:fk fD [] [L1,L2]=[vj,zU]:=by
 have h1:br fD [] L1=(vj,true):=pi BW CB nI (by rw [kA];decide);have h2:br fD [vj] L2=(zU,true):=pi BV CA KU (by have:=sY;omega);rw [fk,h1,if_pos rfl,Wf,fk,h2,if_pos rfl];rfl
def wkD:aM:=ee nmJ (asQ [L1,L2]) (asQ [L1,L2]).length
theorem DG:kV wkD nmJ fD=0/\nA wkD nmJ fD=[vj,zU]/\qB wkD nmJ fD=0:=by
 obtain ⟨h1,h2,h3,h4⟩:=sO (nm:=nmJ) (s:=(asQ [L1,L2]).length) AG dcA;have hL:nA wkD nmJ fD=[vj,zU]:=(by unfold nA wkD;rw [h3];exact GY);have hF:ej wkD nmJ fD=true:=(by unfold ej;rw [hL];unfold wkD;rw [h3];rfl);refine ⟨?_,hL,?_⟩
 .unfold kV;rw [hF];unfold wkD;rw [h1,if_neg skA,if_pos rfl]
 .unfold qB;rw [hF,if_pos rfl];exact h4
theorem DF:kV wkD nmJ vC=0/\nA wkD nmJ vC=[]/\0<qB wkD nmJ vC:=by
 obtain ⟨h1,h2,h3,h4⟩:=sO (nm:=nmJ) (s:=(asQ [L1,L2]).length) AG dcA;have hL:nA wkD nmJ vC=[]:=(by unfold nA wkD;rw [h3];show fk vC [] [L1,L2]=[];rw [fk,wm,if_neg skA]);have hF:ej wkD nmJ vC=false:=(by unfold ej;rw [hL];unfold wkD;rw [h3];rfl);have hAt:ie wkD nmJ vC=0:=(by unfold ie;rw [hL];rfl);have hcut:dS wkD nmJ vC=(ee nmJ [] 0,0):=by
  unfold dS;rw [hAt];show jh (fU (ee nmJ (asQ [L1,L2]) (asQ [L1,L2]).length) nmJ) nmJ ((0:Nat):Int)=_;rw [h2,wu (Vo _)];rfl
 obtain ⟨g1,g2,g3,g4⟩:=sO (nm:=nmJ) (s:=0) (ls:=[]) (fun x hx=>by cases hx) dcA;refine ⟨?_,hL,?_⟩
 .unfold kV;rw [hF,hcut];unfold wkD;rw [h1,if_neg skA,if_neg skA,if_neg skA];exact g1
 .unfold qB;rw [hF,hAt,if_neg skA];have e:(asQ (cW wkD nmJ).1).length=151+(8+L2.length):=by
   unfold wkD;rw [h3];show (asQ [L1,L2]).length=_;simp [asQ,bM,Dw]
  omega
theorem DH:(sM (dE wkD []).1).1=wkD:=by
 unfold wkD ee dE sM lq im;simp [ip]
end
section
open Go.RowKit Go.Maps
structure cz (w:World) (B:Nat) (a:Option Addr) (c:Nat) (ds:List (ao×aW)):Prop where
 row:Own w B 40 15 a ds.length c (dv ds)
 each:∀x∈ds,aX w B x.1 x.2
structure fB (w:World) (a:Option Addr) (ds:List (ao×aW)):Prop where
 row:aw w a (dv ds)
 each:∀x∈ds,dC w x.1 x.2
section
variable {w w':World} {B:Nat} {a:Option Addr} {c:Nat} {ds:List (ao×aW)}
theorem cz.at (h:cz w B a c ds):fB w a ds:=⟨h.row.row,fun x hx=>(h.each x hx).at⟩
theorem cz.old (h:cz w B a c ds) (hb:Below w.heap.size w w'):cz w' B a c ds:=⟨h.row.old hb,fun x hx=>(h.each x hx).old hb⟩
theorem fB.old (h:fB w a ds) (hb:Below w.heap.size w w'):fB w' a ds:=⟨h.row.below hb,fun x hx=>(h.each x hx).old hb⟩
theorem cz.nil (w:World) (B:Nat):cz w B none 0 []:=⟨Own.nil _ _ _ _,fun x hx=>by cases hx⟩
theorem aR.own {d:Nat} {V:aV} (h:aR w B d V):cz w B V.da V.dc V.ds:=⟨h.deeds,h.each⟩
theorem rF (ds:List (ao×aW)):(dv ds).length=ds.length*15:=by
 induction ds with
 |nil=>rfl
 |cons x l ih=>
  unfold dv at ih⊢;rw [Vh,laA,ih,tz,VT];omega
theorem lM (ds:List (ao×aW)) (x:ao×aW):dv (ds++ [x])=dv ds++ak x.1 x.2:=by simp [dv]
theorem fB.elem (h:fB w a ds) (k:Nat) (hk:k<ds.length):∃b o,a=some ⟨b,o,none⟩/\b<w.heap.size/\∀j (hj:j<(ak ds[k].1 ds[k].2).length),w.cell? ⟨b,o+k*15+j,none⟩=some (ak ds[k].1 ds[k].2)[j]:=
 aw.elem (g:=fun x:ao×aW=>ak x.1 x.2) (sz:=15) (fun _=>rfl) h.row oA k hk
theorem cz.more {W W2:World} {a2:Option Addr} {c2 n:Nat} {p:ao} {h:aW} (ho:cz W B a c ds) (hd:aX W B p h) (hg:(W.alloc (.cells (ak p h).toArray 40)).grownBy W2 (Value.slice a n c).ownBlock)
  (hr:Own W2 B 40 15 a2 (n+1) c2 (dv ds++ak p h)) (hn:ds.length=n):cz W2 B a2 c2 (ds++ [(p,h)]):=by
 subst hn;have hne:∀y cs t,Blk W y cs t->t≠40->W2.heap[y]? =W.heap[y]? :=fun y cs t hb ht=>by
  refine (hg.block y (by simp;have:=hb.lt;omega) fun e=> ?_).trans (Vi _ _ _ hb.lt);cases ha:a with
  |none=>rw [ha] at e;cases e
  |some ad=>
   rw [ha] at e;simp [Value.ownBlock] at e;obtain ⟨_,_,cur,hb2⟩:=ho.row.block_lt ha;subst e;exact hb.ne hb2 ht rfl
 refine ⟨by rw [lM,laA];exact hr,fun x hx=> ?_⟩;have key:∀q g,aX W B q g->aX W2 B q g:=fun q g hq=>hq.keepB fun y hy=>by
  obtain ⟨_,_,cur,t,hb,ht⟩:=hq.innerLt hy;exact hne y cur t hb (by rcases ht with rfl|rfl<;>decide)
 rcases VQ.1 hx with hx|hx
 .exact key _ _ (ho.each x hx)
 .rw [VH.1 hx];exact key _ _ hd
end
theorem yT (w:World) (B d:Nat) (V:aV) (h:aR w B d V):
  Calls prog 26 #[.pointer (some ⟨V.v,0,none⟩)] w fun e w'=>e= .returned (.int .i64 (aP V.l:Int))/\Below w.heap.size w w':=by
 have hb:=h.blk.rule;unfold aQ at hb;have hsz:∀ty,(Builtin.len_ #[90] ty #[.map (some V.mg)]).run prog w= .ok (.int .i64 (aP V.l:Int)) w:=fun ty=>h.size ty;go_enter func26,ntmps26;go_wp2_with fail;go_ret;exact ⟨rfl,cL⟩
def DdsR (w:World) (l:List ao) (n f:Nat) (out i:Value) (wr:World):Prop:=
 ∃(k:Nat) (done:List (ao×aW)) (a:Option Addr) (c:Nat),k+f=n/\i= .int .i64 (k:Int)/\out= .slice a k c/\done.length=k/\done.map Prod.fst=l.take k/\cz wr w.heap.size a c done/\Below w.heap.size w wr
theorem mQ (w:World) (B d:Nat) (V:aV) (h:aR w B d V):
  Calls prog 21 #[.pointer (some ⟨V.v,0,none⟩)] w fun e w'=>∃a c ds,e= .returned (.slice a ds.length c)/\ds.map Prod.fst=V.l/\cz w' w.heap.size a c ds/\Below w.heap.size w w':=by
 have hb:=h.blk.rule;unfold aQ at hb;have hn4:=h.small.1;obtain ⟨n,hn⟩:=Le V.ds.length;rw [<-hn] at hb hn4;have HN:=Hd hn;clear hn;go_enter func21,ntmps21;go_wp2_with fail;clear hb;go_loopg [3,13] n (fun f out i wr=>DdsR w V.l n f out i wr)
 case atStart=>exact ⟨0,[],none,0,oA,rfl,rfl,rfl,rfl,cz.nil _ _,cL⟩
 case round=>
  obtain ⟨k,done,a,c,hf,rfl,rfl,hk,hl,ho,hbw⟩:=hrel;have HF:=Hd hf;clear hf;by_cases hkn:k<n
  .have hkl:k<V.ds.length:=(by rw [<-HN.out];exact hkn);obtain ⟨b,o,hab,hbl,hc⟩:=((h.own.at).old hbw).elem k hkl;have hdo:dC wr (V.ds[k]).1 (V.ds[k]).2:=((h.each _ (VE hkl)).at).old hbw;obtain ⟨p,hp⟩:=Le ((V.ds[k]).1);obtain ⟨g,hg⟩:=Le ((V.ds[k]).2);rw [<-hp,<-hg] at hc hdo;have HP:=Hd hp;clear hp hg;rw [hab];go_upto_region 7 with (first|refine eC rfl 40 aZ _ rfl rfl rfl hc rfl ?_|refine eP rfl 40 aZ (.tmp 5) (.tmp 16) rfl rfl rfl (Blk.new wr bR 40) rfl dcA rfl ?_);obtain ⟨X,hX⟩:=Le wr.heap.size;rw [<-hX];refine af (fun W=>Blk W X (ak p g).toArray 40/\Below wr.heap.size wr W) ⟨by rw [hX];exact (mW p g)▸(Blk.new wr bR 40).setRow _,by rw [hX];exact ag ((AT _ wr).alloc (Lt _) _) (Lt _) _⟩ ?_;rintro W1 ⟨bX,hb1⟩;have hXw:wr.heap.size<=X:=VR hX.symm;clear hX hc;have hz1:=hb1.size;have hzw:=hbw.size;have ho1:=ho.old hb1;have hrow1:=ho1.row;rw [hk] at hrow1;have hd1:=hdo.old hb1;have cc:=pf p g W1 hd1;rw [aH] at cc;clear hrow1;go_wp2_with (first|refine am rfl 40 aZ (.tmp 5) rfl rfl bX rfl ?_);refine cc.mono ?_;clear cc;rintro e W2 ⟨h',rfl,hdo2,hb2⟩;rw [aH];have hl15:(ak p h').length=15:=rfl;have ho2:=ho1.old hb2;have hrow2:=ho2.row;rw [hk] at hrow2;have hz2:=hb2.size;have hdo2':=hdo2.lower (B':=w.heap.size) oA;have hb02:Below w.heap.size w W2:=ae (ae hbw hb1) hb2;clear hb1 hb2 bX ho1 hd1 hdo2;go_wp2_with (at_builtin;rw [kx];refine al rfl _ _ 23 rfl vd rfl (hrow2.alloc _) rfl (aw.new' W2 (ak p h').toArray 40 _ rfl) rfA (by exact dg _ rfl) mxA oA soA ?_);intro a3 c3 W3 hr3 hg3;have ho3:=ho2.more hdo2' hg3 hr3 hk;have hb03:Below w.heap.size w W3:=(hrow2.alloc _).grown (hb02.alloc hb02.size _) skA hg3 (by simp;have:=hb02.size;omega);go_wp2_with fail;rw [<-hab];go_roundg (gk-1)
   case rel=>
    have hf:=HF.out;refine ⟨k+1,done++ [(p,h')],a3,c3,oA,gnA,rfl,by simp [hk],?_,ho3,hb03⟩;rw [VG,hl,VW (by rw [aV.len];exact hkl)];simp [aV.l,HP.out]
   case measure=>have hf:=HF.out;omega
  .have hkn':k=n:=(by have:=HF.out;omega);subst hkn';go_wp2_with fail;go_ret;refine ⟨a,c,done,by subst hk;rfl,?_,ho,hbw⟩;rw [hl,Vj];rw [aV.len,<-HN.out];exact Lt _
end
end Go.Proofs.YtioigihakjlopaaGreat
