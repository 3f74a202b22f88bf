/- Texts put together and cut to what is used: VWakeNum, VWakeP. -/
import Derived.Test.YtioigihakjlopaaGreatVB36
namespace Go.Proofs.YtioigihakjlopaaGreat
set_option linter.unusedVariables false
set_option linter.unusedSimpArgs false
section
open Go.RowKit
def vmast:List UInt8:=[109,97,115,116,101,114]
def voth:List UInt8:=[111,116,104,101,114]
def vb1:List UInt8:=[1,0,0,0,0,0,0,0,0,0,0,0,0,0,0,0,0,0,0,0,0,0,0,0,0,0,0,0,0,0,0,0,3,97,110,110,0,0,0,0,0,0,0,3,98,111,98,0,0,0,0,0,0,0,2,0,0,0,0,0,0,0,1,0,0,0,0,0,0,0,2,0,0,0,0,0,0,0,1,0,0,0,0,0,0,0,3,0,0,0,0,0,0,0,1,0,0,0,0,0,0,0,5]
def vck:Nat→BitVec 8:=ckB vmast 0
def vcb (q:Nat):Nat→BitVec 8:=ctr (nonB 0 0) q
theorem vk0:rk vck 0=lst [117#8,23#8,193#8,122#8,182#8,210#8,36#8,221#8,149#8,58#8,221#8,48#8,166#8,82#8,69#8,127#8]:=tb_lst rfl (by decide+kernel)
theorem vrc0:rc 0=1#8:=rfl
theorem vrc1:rc 1=2#8:=by rw [rc,vrc0];decide+kernel
theorem vrc2:rc 2=4#8:=by rw [rc,vrc1];decide+kernel
theorem vrc3:rc 3=8#8:=by rw [rc,vrc2];decide+kernel
theorem vrc4:rc 4=16#8:=by rw [rc,vrc3];decide+kernel
theorem vrc5:rc 5=32#8:=by rw [rc,vrc4];decide+kernel
theorem vrc6:rc 6=64#8:=by rw [rc,vrc5];decide+kernel
theorem vrc7:rc 7=128#8:=by rw [rc,vrc6];decide+kernel
theorem vrc8:rc 8=27#8:=by rw [rc,vrc7];decide+kernel
theorem vrc9:rc 9=54#8:=by rw [rc,vrc8];decide+kernel
theorem vk1:rk vck 1=lst [116#8,121#8,19#8,94#8,194#8,171#8,55#8,131#8,87#8,145#8,234#8,179#8,241#8,195#8,175#8,204#8]:=by rw [rk,vk0,vrc0];exact tb_lst rfl (by decide+kernel)
theorem vk2:rk vck 2=lst [88#8,0#8,88#8,255#8,154#8,171#8,111#8,124#8,205#8,58#8,133#8,207#8,60#8,249#8,42#8,3#8]:=by rw [rk,vk1,vrc1];exact tb_lst rfl (by decide+kernel)
theorem vk3:rk vck 3=lst [197#8,229#8,35#8,20#8,95#8,78#8,76#8,104#8,146#8,116#8,201#8,167#8,174#8,141#8,227#8,164#8]:=by rw [rk,vk2,vrc2];exact tb_lst rfl (by decide+kernel)
theorem vk4:rk vck 4=lst [144#8,244#8,106#8,240#8,207#8,186#8,38#8,152#8,93#8,206#8,239#8,63#8,243#8,67#8,12#8,155#8]:=by rw [rk,vk3,vrc3];exact tb_lst rfl (by decide+kernel)
theorem vk5:rk vck 5=lst [154#8,10#8,126#8,253#8,85#8,176#8,88#8,101#8,8#8,126#8,183#8,90#8,251#8,61#8,187#8,193#8]:=by rw [rk,vk4,vrc4];exact tb_lst rfl (by decide+kernel)
theorem vk6:rk vck 6=lst [157#8,224#8,6#8,242#8,200#8,80#8,94#8,151#8,192#8,46#8,233#8,205#8,59#8,19#8,82#8,12#8]:=by rw [rk,vk5,vrc5];exact tb_lst rfl (by decide+kernel)
theorem vk7:rk vck 7=lst [160#8,224#8,248#8,16#8,104#8,176#8,166#8,135#8,168#8,158#8,79#8,74#8,147#8,141#8,29#8,70#8]:=by rw [rk,vk6,vrc6];exact tb_lst rfl (by decide+kernel)
theorem vk8:rk vck 8=lst [125#8,68#8,162#8,204#8,21#8,244#8,4#8,75#8,189#8,106#8,75#8,1#8,46#8,231#8,86#8,71#8]:=by rw [rk,vk7,vrc7];exact tb_lst rfl (by decide+kernel)
theorem vk9:rk vck 9=lst [242#8,245#8,2#8,253#8,231#8,1#8,6#8,182#8,90#8,107#8,77#8,183#8,116#8,140#8,27#8,240#8]:=by rw [rk,vk8,vrc8];exact tb_lst rfl (by decide+kernel)
theorem vk10:rk vck 10=lst [160#8,90#8,142#8,111#8,71#8,91#8,136#8,217#8,29#8,48#8,197#8,110#8,105#8,188#8,222#8,158#8]:=by rw [rk,vk9,vrc9];exact tb_lst rfl (by decide+kernel)
theorem vs0_0:encs vck (vcb 0) 0=lst [117#8,23#8,193#8,122#8,182#8,210#8,36#8,221#8,149#8,58#8,221#8,48#8,166#8,82#8,69#8,127#8]:=by rw [encs,vk0];exact tb_lst rfl (by decide+kernel)
theorem vs0_1:encs vck (vcb 0) 1=lst [130#8,31#8,207#8,41#8,113#8,150#8,80#8,16#8,186#8,242#8,104#8,44#8,128#8,66#8,27#8,110#8]:=by rw [encs,vs0_0,rnd,vk1];exact tb_lst rfl (by decide+kernel)
theorem vs0_2:encs vck (vcb 0) 2=lst [15#8,120#8,235#8,58#8,77#8,78#8,244#8,245#8,10#8,217#8,23#8,225#8,196#8,43#8,18#8,62#8]:=by rw [encs,vs0_1,rnd,vk2];exact tb_lst rfl (by decide+kernel)
theorem vs0_3:encs vck (vcb 0) 3=lst [26#8,116#8,76#8,46#8,148#8,7#8,136#8,177#8,91#8,44#8,167#8,193#8,14#8,208#8,53#8,104#8]:=by rw [encs,vs0_2,rnd,vk3];exact tb_lst rfl (by decide+kernel)
theorem vs0_4:encs vck (vcb 0) 4=lst [130#8,102#8,122#8,30#8,191#8,234#8,17#8,123#8,94#8,164#8,183#8,166#8,175#8,248#8,46#8,219#8]:=by rw [encs,vs0_3,rnd,vk4];exact tb_lst rfl (by decide+kernel)
theorem vs0_5:encs vck (vcb 0) 5=lst [62#8,85#8,115#8,143#8,221#8,11#8,237#8,225#8,128#8,240#8,98#8,107#8,250#8,155#8,130#8,179#8]:=by rw [encs,vs0_4,rnd,vk5];exact tb_lst rfl (by decide+kernel)
theorem vs0_6:encs vck (vcb 0) 6=lst [88#8,140#8,103#8,100#8,190#8,212#8,160#8,182#8,10#8,185#8,38#8,241#8,84#8,93#8,168#8,44#8]:=by rw [encs,vs0_5,rnd,vk6];exact tb_lst rfl (by decide+kernel)
theorem vs0_7:encs vck (vcb 0) 7=lst [42#8,105#8,188#8,243#8,84#8,172#8,4#8,124#8,121#8,187#8,167#8,182#8,62#8,255#8,122#8,251#8]:=by rw [encs,vs0_6,rnd,vk7];exact tb_lst rfl (by decide+kernel)
theorem vs0_8:encs vck (vcb 0) 8=lst [87#8,115#8,127#8,43#8,167#8,99#8,118#8,1#8,133#8,79#8,17#8,147#8,253#8,255#8,48#8,29#8]:=by rw [encs,vs0_7,rnd,vk8];exact tb_lst rfl (by decide+kernel)
theorem vs0_9:encs vck (vcb 0) 9=lst [116#8,122#8,74#8,58#8,61#8,179#8,222#8,43#8,251#8,193#8,247#8,41#8,178#8,73#8,207#8,24#8]:=by rw [encs,vs0_8,rnd,vk9];exact tb_lst rfl (by decide+kernel)
theorem vs0_10:encs vck (vcb 0) 10=lst [50#8,55#8,230#8,194#8,96#8,35#8,2#8,89#8,18#8,11#8,19#8,159#8,94#8,102#8,195#8,59#8]:=by rw [encs,vs0_9,rnd,vk10];exact tb_lst rfl (by decide+kernel)
theorem vs1_0:encs vck (vcb 1) 0=lst [117#8,23#8,193#8,122#8,182#8,210#8,36#8,221#8,149#8,58#8,221#8,48#8,166#8,82#8,69#8,126#8]:=by rw [encs,vk0];exact tb_lst rfl (by decide+kernel)
theorem vs1_1:encs vck (vcb 1) 1=lst [163#8,62#8,172#8,107#8,113#8,150#8,80#8,16#8,186#8,242#8,104#8,44#8,128#8,66#8,27#8,110#8]:=by rw [encs,vs1_0,rnd,vk1];exact tb_lst rfl (by decide+kernel)
theorem vs1_2:encs vck (vcb 1) 2=lst [61#8,97#8,242#8,17#8,151#8,148#8,129#8,90#8,17#8,244#8,33#8,250#8,82#8,207#8,96#8,76#8]:=by rw [encs,vs1_1,rnd,vk2];exact tb_lst rfl (by decide+kernel)
theorem vs1_3:encs vck (vcb 1) 3=lst [57#8,179#8,188#8,240#8,220#8,74#8,93#8,155#8,63#8,199#8,17#8,94#8,165#8,113#8,99#8,29#8]:=by rw [encs,vs1_2,rnd,vk3];exact tb_lst rfl (by decide+kernel)
theorem vs1_4:encs vck (vcb 1) 4=lst [243#8,104#8,70#8,193#8,254#8,49#8,4#8,55#8,56#8,93#8,207#8,78#8,92#8,19#8,23#8,0#8]:=by rw [encs,vs1_3,rnd,vk4];exact tb_lst rfl (by decide+kernel)
theorem vs1_5:encs vck (vcb 1) 5=lst [59#8,116#8,30#8,97#8,100#8,224#8,220#8,255#8,65#8,247#8,204#8,91#8,125#8,223#8,58#8,246#8]:=by rw [encs,vs1_4,rnd,vk5];exact tb_lst rfl (by decide+kernel)
theorem vs1_6:encs vck (vcb 1) 6=lst [115#8,68#8,85#8,225#8,153#8,183#8,68#8,127#8,0#8,10#8,42#8,147#8,204#8,123#8,99#8,112#8]:=by rw [encs,vs1_5,rnd,vk6];exact tb_lst rfl (by decide+kernel)
theorem vs1_7:encs vck (vcb 1) 7=lst [241#8,67#8,252#8,116#8,5#8,126#8,209#8,217#8,35#8,114#8,131#8,141#8,239#8,1#8,4#8,56#8]:=by rw [encs,vs1_6,rnd,vk7];exact tb_lst rfl (by decide+kernel)
theorem vs1_8:encs vck (vcb 1) 8=lst [193#8,48#8,58#8,37#8,99#8,128#8,125#8,123#8,240#8,74#8,53#8,205#8,198#8,19#8,8#8,163#8]:=by rw [encs,vs1_7,rnd,vk8];exact tb_lst rfl (by decide+kernel)
theorem vs1_9:encs vck (vcb 1) 9=lst [210#8,167#8,158#8,58#8,100#8,34#8,10#8,56#8,127#8,167#8,196#8,135#8,73#8,151#8,146#8,173#8]:=by rw [encs,vs1_8,rnd,vk9];exact tb_lst rfl (by decide+kernel)
theorem vs1_10:encs vck (vcb 1) 10=lst [21#8,201#8,146#8,250#8,4#8,7#8,199#8,89#8,207#8,184#8,206#8,105#8,82#8,224#8,185#8,137#8]:=by rw [encs,vs1_9,rnd,vk10];exact tb_lst rfl (by decide+kernel)
theorem vs2_0:encs vck (vcb 2) 0=lst [117#8,23#8,193#8,122#8,182#8,210#8,36#8,221#8,149#8,58#8,221#8,48#8,166#8,82#8,69#8,125#8]:=by rw [encs,vk0];exact tb_lst rfl (by decide+kernel)
theorem vs2_1:encs vck (vcb 2) 1=lst [175#8,50#8,184#8,115#8,113#8,150#8,80#8,16#8,186#8,242#8,104#8,44#8,128#8,66#8,27#8,110#8]:=by rw [encs,vs2_0,rnd,vk1];exact tb_lst rfl (by decide+kernel)
theorem vs2_2:encs vck (vcb 2) 2=lst [219#8,18#8,129#8,132#8,103#8,100#8,138#8,161#8,236#8,232#8,192#8,7#8,250#8,246#8,241#8,221#8]:=by rw [encs,vs2_1,rnd,vk2];exact tb_lst rfl (by decide+kernel)
theorem vs2_3:encs vck (vcb 2) 3=lst [18#8,206#8,238#8,164#8,6#8,65#8,234#8,120#8,237#8,24#8,11#8,196#8,15#8,110#8,175#8,245#8]:=by rw [encs,vs2_2,rnd,vk3];exact tb_lst rfl (by decide+kernel)
theorem vs2_4:encs vck (vcb 2) 4=lst [74#8,187#8,71#8,207#8,205#8,86#8,205#8,111#8,217#8,122#8,170#8,20#8,2#8,182#8,192#8,53#8]:=by rw [encs,vs2_3,rnd,vk4];exact tb_lst rfl (by decide+kernel)
theorem vs2_5:encs vck (vcb 2) 5=lst [223#8,220#8,251#8,182#8,113#8,253#8,213#8,214#8,184#8,132#8,116#8,160#8,119#8,163#8,82#8,224#8]:=by rw [encs,vs2_4,rnd,vk5];exact tb_lst rfl (by decide+kernel)
theorem vs2_6:encs vck (vcb 2) 6=lst [53#8,154#8,203#8,84#8,58#8,3#8,112#8,170#8,255#8,177#8,144#8,139#8,184#8,20#8,28#8,86#8]:=by rw [encs,vs2_5,rnd,vk6];exact tb_lst rfl (by decide+kernel)
theorem vs2_7:encs vck (vcb 2) 7=lst [203#8,145#8,29#8,211#8,140#8,36#8,173#8,8#8,34#8,234#8,114#8,214#8,244#8,68#8,44#8,97#8]:=by rw [encs,vs2_6,rnd,vk7];exact tb_lst rfl (by decide+kernel)
theorem vs2_8:encs vck (vcb 2) 8=lst [182#8,24#8,33#8,94#8,88#8,112#8,175#8,221#8,57#8,8#8,192#8,112#8,176#8,19#8,88#8,126#8]:=by rw [encs,vs2_7,rnd,vk8];exact tb_lst rfl (by decide+kernel)
theorem vs2_9:encs vck (vcb 2) 9=lst [212#8,63#8,124#8,57#8,81#8,237#8,96#8,226#8,197#8,94#8,155#8,152#8,101#8,240#8,80#8,180#8]:=by rw [encs,vs2_8,rnd,vk9];exact tb_lst rfl (by decide+kernel)
theorem vs2_10:encs vck (vcb 2) 10=lst [232#8,15#8,154#8,226#8,150#8,3#8,219#8,203#8,187#8,188#8,213#8,246#8,36#8,201#8,14#8,216#8]:=by rw [encs,vs2_9,rnd,vk10];exact tb_lst rfl (by decide+kernel)
theorem vs3_0:encs vck (vcb 3) 0=lst [117#8,23#8,193#8,122#8,182#8,210#8,36#8,221#8,149#8,58#8,221#8,48#8,166#8,82#8,69#8,124#8]:=by rw [encs,vk0];exact tb_lst rfl (by decide+kernel)
theorem vs3_1:encs vck (vcb 3) 1=lst [64#8,221#8,146#8,182#8,113#8,150#8,80#8,16#8,186#8,242#8,104#8,44#8,128#8,66#8,27#8,110#8]:=by rw [encs,vs3_0,rnd,vk1];exact tb_lst rfl (by decide+kernel)
theorem vs3_2:encs vck (vcb 3) 2=lst [59#8,98#8,241#8,20#8,166#8,165#8,210#8,56#8,207#8,141#8,134#8,36#8,199#8,41#8,19#8,63#8]:=by rw [encs,vs3_1,rnd,vk2];exact tb_lst rfl (by decide+kernel)
theorem vs3_3:encs vck (vcb 3) 3=lst [33#8,178#8,208#8,129#8,119#8,173#8,218#8,203#8,207#8,80#8,182#8,40#8,95#8,246#8,164#8,134#8]:=by rw [encs,vs3_2,rnd,vk3];exact tb_lst rfl (by decide+kernel)
theorem vs3_4:encs vck (vcb 3) 4=lst [223#8,174#8,82#8,191#8,142#8,62#8,6#8,158#8,251#8,79#8,230#8,182#8,76#8,47#8,6#8,217#8]:=by rw [encs,vs3_3,rnd,vk4];exact tb_lst rfl (by decide+kernel)
theorem vs3_5:encs vck (vcb 3) 5=lst [203#8,87#8,10#8,18#8,151#8,3#8,3#8,181#8,34#8,80#8,176#8,72#8,191#8,56#8,122#8,173#8]:=by rw [encs,vs3_4,rnd,vk5];exact tb_lst rfl (by decide+kernel)
theorem vs3_6:encs vck (vcb 3) 6=lst [92#8,174#8,19#8,126#8,37#8,194#8,106#8,20#8,70#8,207#8,215#8,178#8,239#8,114#8,1#8,144#8]:=by rw [encs,vs3_5,rnd,vk6];exact tb_lst rfl (by decide+kernel)
theorem vs3_7:encs vck (vcb 3) 7=lst [53#8,146#8,43#8,37#8,28#8,247#8,229#8,205#8,91#8,57#8,186#8,118#8,52#8,176#8,123#8,180#8]:=by rw [encs,vs3_6,rnd,vk7];exact tb_lst rfl (by decide+kernel)
theorem vs3_8:encs vck (vcb 3) 8=lst [139#8,136#8,35#8,240#8,30#8,16#8,137#8,185#8,177#8,51#8,176#8,61#8,46#8,41#8,224#8,137#8]:=by rw [encs,vs3_7,rnd,vk8];exact tb_lst rfl (by decide+kernel)
theorem vs3_9:encs vck (vcb 3) 9=lst [141#8,210#8,210#8,194#8,48#8,90#8,225#8,1#8,85#8,206#8,150#8,219#8,193#8,251#8,210#8,142#8]:=by rw [encs,vs3_8,rnd,vk9];exact tb_lst rfl (by decide+kernel)
theorem vs3_10:encs vck (vcb 3) 10=lst [253#8,228#8,30#8,118#8,67#8,208#8,61#8,252#8,225#8,63#8,112#8,18#8,17#8,9#8,38#8,39#8]:=by rw [encs,vs3_9,rnd,vk10];exact tb_lst rfl (by decide+kernel)
theorem vs4_0:encs vck (vcb 4) 0=lst [117#8,23#8,193#8,122#8,182#8,210#8,36#8,221#8,149#8,58#8,221#8,48#8,166#8,82#8,69#8,123#8]:=by rw [encs,vk0];exact tb_lst rfl (by decide+kernel)
theorem vs4_1:encs vck (vcb 4) 1=lst [113#8,236#8,193#8,212#8,113#8,150#8,80#8,16#8,186#8,242#8,104#8,44#8,128#8,66#8,27#8,110#8]:=by rw [encs,vs4_0,rnd,vk1];exact tb_lst rfl (by decide+kernel)
theorem vs4_2:encs vck (vcb 4) 2=lst [116#8,200#8,91#8,241#8,160#8,163#8,216#8,52#8,248#8,212#8,232#8,19#8,214#8,55#8,28#8,48#8]:=by rw [encs,vs4_1,rnd,vk2];exact tb_lst rfl (by decide+kernel)
theorem vs4_3:encs vck (vcb 4) 3=lst [123#8,209#8,154#8,32#8,97#8,32#8,63#8,222#8,132#8,73#8,72#8,247#8,102#8,110#8,184#8,214#8]:=by rw [encs,vs4_2,rnd,vk3];exact tb_lst rfl (by decide+kernel)
theorem vs4_4:encs vck (vcb 4) 4=lst [180#8,160#8,89#8,129#8,156#8,32#8,232#8,144#8,252#8,122#8,99#8,195#8,202#8,251#8,83#8,85#8]:=by rw [encs,vs4_3,rnd,vk4];exact tb_lst rfl (by decide+kernel)
theorem vs4_5:encs vck (vcb 4) 5=lst [94#8,24#8,182#8,222#8,102#8,225#8,137#8,51#8,201#8,246#8,37#8,149#8,157#8,10#8,112#8,122#8]:=by rw [encs,vs4_4,rnd,vk5];exact tb_lst rfl (by decide+kernel)
theorem vs4_6:encs vck (vcb 4) 6=lst [219#8,200#8,173#8,114#8,36#8,9#8,170#8,235#8,69#8,44#8,145#8,5#8,230#8,212#8,138#8,176#8]:=by rw [encs,vs4_5,rnd,vk6];exact tb_lst rfl (by decide+kernel)
theorem vs4_7:encs vck (vcb 4) 7=lst [172#8,36#8,107#8,149#8,169#8,166#8,221#8,82#8,208#8,45#8,120#8,236#8,112#8,76#8,133#8,93#8]:=by rw [encs,vs4_6,rnd,vk7];exact tb_lst rfl (by decide+kernel)
theorem vs4_8:encs vck (vcb 4) 8=lst [216#8,14#8,160#8,100#8,102#8,4#8,68#8,62#8,89#8,201#8,236#8,199#8,217#8,76#8,225#8,196#8]:=by rw [encs,vs4_7,rnd,vk8];exact tb_lst rfl (by decide+kernel)
theorem vs4_9:encs vck (vcb 4) 9=lst [239#8,62#8,50#8,90#8,70#8,195#8,198#8,64#8,254#8,123#8,185#8,71#8,37#8,31#8,226#8,136#8]:=by rw [encs,vs4_8,rnd,vk9];exact tb_lst rfl (by decide+kernel)
theorem vs4_10:encs vck (vcb 4) 10=lst [127#8,116#8,216#8,171#8,29#8,122#8,16#8,103#8,166#8,240#8,230#8,103#8,86#8,14#8,106#8,62#8]:=by rw [encs,vs4_9,rnd,vk10];exact tb_lst rfl (by decide+kernel)
theorem vs5_0:encs vck (vcb 5) 0=lst [117#8,23#8,193#8,122#8,182#8,210#8,36#8,221#8,149#8,58#8,221#8,48#8,166#8,82#8,69#8,122#8]:=by rw [encs,vk0];exact tb_lst rfl (by decide+kernel)
theorem vs5_1:encs vck (vcb 5) 1=lst [138#8,23#8,215#8,57#8,113#8,150#8,80#8,16#8,186#8,242#8,104#8,44#8,128#8,66#8,27#8,110#8]:=by rw [encs,vs5_0,rnd,vk1];exact tb_lst rfl (by decide+kernel)
theorem vs5_2:encs vck (vcb 5) 2=lst [213#8,21#8,134#8,141#8,250#8,249#8,54#8,128#8,142#8,78#8,4#8,101#8,148#8,75#8,34#8,14#8]:=by rw [encs,vs5_1,rnd,vk2];exact tb_lst rfl (by decide+kernel)
theorem vs5_3:encs vck (vcb 5) 3=lst [42#8,105#8,160#8,55#8,186#8,206#8,148#8,25#8,231#8,17#8,167#8,250#8,73#8,95#8,69#8,4#8]:=by rw [encs,vs5_2,rnd,vk3];exact tb_lst rfl (by decide+kernel)
theorem vs5_4:encs vck (vcb 5) 4=lst [105#8,10#8,177#8,236#8,85#8,121#8,57#8,92#8,16#8,48#8,8#8,4#8,154#8,218#8,253#8,87#8]:=by rw [encs,vs5_3,rnd,vk4];exact tb_lst rfl (by decide+kernel)
theorem vs5_5:encs vck (vcb 5) 5=lst [217#8,143#8,188#8,221#8,32#8,118#8,65#8,173#8,252#8,19#8,127#8,20#8,217#8,143#8,77#8,152#8]:=by rw [encs,vs5_4,rnd,vk5];exact tb_lst rfl (by decide+kernel)
theorem vs5_6:encs vck (vcb 5) 6=lst [43#8,142#8,126#8,203#8,24#8,226#8,17#8,82#8,222#8,66#8,68#8,33#8,189#8,164#8,28#8,76#8]:=by rw [encs,vs5_5,rnd,vk6];exact tb_lst rfl (by decide+kernel)
theorem vs5_7:encs vck (vcb 5) 7=lst [216#8,62#8,220#8,201#8,222#8,229#8,37#8,229#8,186#8,31#8,230#8,215#8,51#8,165#8,125#8,178#8]:=by rw [encs,vs5_6,rnd,vk7];exact tb_lst rfl (by decide+kernel)
theorem vs5_8:encs vck (vcb 5) 8=lst [118#8,50#8,68#8,86#8,86#8,181#8,64#8,242#8,27#8,218#8,222#8,47#8,79#8,20#8,75#8,136#8]:=by rw [encs,vs5_7,rnd,vk8];exact tb_lst rfl (by decide+kernel)
theorem vs5_9:encs vck (vcb 5) 9=lst [63#8,159#8,130#8,238#8,101#8,97#8,85#8,227#8,152#8,143#8,174#8,181#8,30#8,64#8,145#8,103#8]:=by rw [encs,vs5_8,rnd,vk9];exact tb_lst rfl (by decide+kernel)
theorem vs5_10:encs vck (vcb 5) 10=lst [213#8,181#8,106#8,234#8,10#8,40#8,9#8,241#8,91#8,57#8,214#8,127#8,27#8,103#8,34#8,75#8]:=by rw [encs,vs5_9,rnd,vk10];exact tb_lst rfl (by decide+kernel)
theorem vs6_0:encs vck (vcb 6) 0=lst [117#8,23#8,193#8,122#8,182#8,210#8,36#8,221#8,149#8,58#8,221#8,48#8,166#8,82#8,69#8,121#8]:=by rw [encs,vk0];exact tb_lst rfl (by decide+kernel)
theorem vs6_1:encs vck (vcb 6) 1=lst [230#8,123#8,99#8,225#8,113#8,150#8,80#8,16#8,186#8,242#8,104#8,44#8,128#8,66#8,27#8,110#8]:=by rw [encs,vs6_0,rnd,vk1];exact tb_lst rfl (by decide+kernel)
theorem vs6_2:encs vck (vcb 6) 2=lst [46#8,229#8,118#8,134#8,16#8,19#8,19#8,79#8,123#8,74#8,245#8,144#8,252#8,242#8,243#8,223#8]:=by rw [encs,vs6_1,rnd,vk2];exact tb_lst rfl (by decide+kernel)
theorem vs6_3:encs vck (vcb 6) 3=lst [88#8,129#8,1#8,251#8,248#8,96#8,134#8,126#8,236#8,144#8,134#8,102#8,184#8,115#8,208#8,11#8]:=by rw [encs,vs6_2,rnd,vk3];exact tb_lst rfl (by decide+kernel)
theorem vs6_4:encs vck (vcb 6) 4=lst [64#8,194#8,37#8,140#8,146#8,164#8,246#8,85#8,223#8,114#8,88#8,120#8,72#8,200#8,177#8,1#8]:=by rw [encs,vs6_3,rnd,vk4];exact tb_lst rfl (by decide+kernel)
theorem vs6_5:encs vck (vcb 6) 5=lst [69#8,83#8,110#8,61#8,167#8,88#8,112#8,244#8,207#8,150#8,160#8,215#8,206#8,95#8,151#8,51#8]:=by rw [encs,vs6_4,rnd,vk5];exact tb_lst rfl (by decide+kernel)
theorem vs6_6:encs vck (vcb 6) 6=lst [220#8,162#8,135#8,87#8,116#8,147#8,240#8,37#8,165#8,36#8,83#8,125#8,69#8,164#8,132#8,42#8]:=by rw [encs,vs6_5,rnd,vk6];exact tb_lst rfl (by decide+kernel)
theorem vs6_7:encs vck (vcb 6) 7=lst [192#8,12#8,87#8,97#8,9#8,244#8,81#8,245#8,87#8,12#8,111#8,96#8,114#8,231#8,80#8,167#8]:=by rw [encs,vs6_6,rnd,vk7];exact tb_lst rfl (by decide+kernel)
theorem vs6_8:encs vck (vcb 6) 8=lst [60#8,36#8,8#8,182#8,178#8,8#8,119#8,32#8,17#8,9#8,3#8,244#8,182#8,248#8,58#8,19#8]:=by rw [encs,vs6_7,rnd,vk8];exact tb_lst rfl (by decide+kernel)
theorem vs6_9:encs vck (vcb 6) 9=lst [105#8,142#8,168#8,106#8,68#8,225#8,249#8,242#8,1#8,140#8,44#8,46#8,248#8,21#8,72#8,132#8]:=by rw [encs,vs6_8,rnd,vk9];exact tb_lst rfl (by decide+kernel)
theorem vs6_10:encs vck (vcb 6) 10=lst [89#8,162#8,255#8,48#8,92#8,63#8,218#8,219#8,97#8,105#8,7#8,231#8,40#8,165#8,71#8,175#8]:=by rw [encs,vs6_9,rnd,vk10];exact tb_lst rfl (by decide+kernel)
def vc1:List UInt8:=[51,55,230,194,96,35,2,89,18,11,19,159,94,102,195,59,21,201,146,250,4,7,199,89,207,184,206,105,82,224,185,137,235,110,244,140,150,3,219,203,187,188,213,245,70,166,108,216,253,228,30,118,67,208,63,252,225,63,112,18,17,9,39,39,127,116,216,171,29,122,18,103,166,240,230,103,86,14,107,62,213,181,106,234,10,40,10,241,91,57,214,127,27,103,35,75,89,162,255,48,92,63,223]
def vks:List (BitVec 8):=[50#8,55#8,230#8,194#8,96#8,35#8,2#8,89#8,18#8,11#8,19#8,159#8,94#8,102#8,195#8,59#8,21#8,201#8,146#8,250#8,4#8,7#8,199#8,89#8,207#8,184#8,206#8,105#8,82#8,224#8,185#8,137#8,232#8,15#8,154#8,226#8,150#8,3#8,219#8,203#8,187#8,188#8,213#8,246#8,36#8,201#8,14#8,216#8,253#8,228#8,30#8,118#8,67#8,208#8,61#8,252#8,225#8,63#8,112#8,18#8,17#8,9#8,38#8,39#8,127#8,116#8,216#8,171#8,29#8,122#8,16#8,103#8,166#8,240#8,230#8,103#8,86#8,14#8,106#8,62#8,213#8,181#8,106#8,234#8,10#8,40#8,9#8,241#8,91#8,57#8,214#8,127#8,27#8,103#8,34#8,75#8,89#8,162#8,255#8,48#8,92#8,63#8,218#8,219#8,97#8,105#8,7#8,231#8,40#8,165#8,71#8,175#8]
theorem v_ksb (i:Nat) (h:i<103):ksb (ckB vmast 0) (nonB 0 0) i=vks.getD i 0#8:=by
 have hq:i/16=0∨i/16=1∨i/16=2∨i/16=3∨i/16=4∨i/16=5∨i/16=6:=by omega
 have hr:i=16*(i/16)+i%16:=by omega
 have hm:i%16<16:=by omega
 rw [ksb]
 generalize i%16=r at*
 generalize i/16=q at*
 subst hr
 rcases hq with rfl|rfl|rfl|rfl|rfl|rfl|rfl
 ·exact (congrFun vs0_10 r).trans ((by decide+kernel:∀r,r<16→lst [50#8,55#8,230#8,194#8,96#8,35#8,2#8,89#8,18#8,11#8,19#8,159#8,94#8,102#8,195#8,59#8] r=vks.getD (16*0+r) 0#8) r hm)
 ·exact (congrFun vs1_10 r).trans ((by decide+kernel:∀r,r<16→lst [21#8,201#8,146#8,250#8,4#8,7#8,199#8,89#8,207#8,184#8,206#8,105#8,82#8,224#8,185#8,137#8] r=vks.getD (16*1+r) 0#8) r hm)
 ·exact (congrFun vs2_10 r).trans ((by decide+kernel:∀r,r<16→lst [232#8,15#8,154#8,226#8,150#8,3#8,219#8,203#8,187#8,188#8,213#8,246#8,36#8,201#8,14#8,216#8] r=vks.getD (16*2+r) 0#8) r hm)
 ·exact (congrFun vs3_10 r).trans ((by decide+kernel:∀r,r<16→lst [253#8,228#8,30#8,118#8,67#8,208#8,61#8,252#8,225#8,63#8,112#8,18#8,17#8,9#8,38#8,39#8] r=vks.getD (16*3+r) 0#8) r hm)
 ·exact (congrFun vs4_10 r).trans ((by decide+kernel:∀r,r<16→lst [127#8,116#8,216#8,171#8,29#8,122#8,16#8,103#8,166#8,240#8,230#8,103#8,86#8,14#8,106#8,62#8] r=vks.getD (16*4+r) 0#8) r hm)
 ·exact (congrFun vs5_10 r).trans ((by decide+kernel:∀r,r<16→lst [213#8,181#8,106#8,234#8,10#8,40#8,9#8,241#8,91#8,57#8,214#8,127#8,27#8,103#8,34#8,75#8] r=vks.getD (16*5+r) 0#8) r hm)
 ·exact (congrFun vs6_10 r).trans ((by decide+kernel:∀r,r<16→lst [89#8,162#8,255#8,48#8,92#8,63#8,218#8,219#8,97#8,105#8,7#8,231#8,40#8,165#8,71#8,175#8] r=vks.getD (16*6+r) 0#8) r hm)
theorem v_stm:stm (ckB vmast 0) (nonB 0 0) vb1=vc1:=by
 have e:(List.range 103).map (fun i=>(⟨(vb1.getD i 0).toBitVec^^^ksb (ckB vmast 0) (nonB 0 0) i⟩:UInt8))=(List.range 103).map (fun i=>(⟨(vb1.getD i 0).toBitVec^^^vks.getD i 0#8⟩:UInt8)):=by
  apply List.map_congr_left
  intro i hi
  rw [v_ksb i (List.mem_range.1 hi)]
 show (List.range 103).map (fun i=>(⟨(vb1.getD i 0).toBitVec^^^ksb (ckB vmast 0) (nonB 0 0) i⟩:UInt8))=_
 rw [e]
 decide+kernel
def vtk:List UInt8:=[146,182,194,240,56,84,212,204,118,255,119,159,82,222,77,91,226,116,142,60,120,226,214,158,113,49,199,38,54,110,192,222]
def vtko:List UInt8:=[210,23,92,134,84,18,110,108,122,230,167,82,18,124,43,188,174,25,207,70,231,65,42,226,91,253,215,146,76,175,197,252]
theorem v_tk:tkL vmast 0=vtk:=by decide+kernel
theorem v_tko:tkL voth 0=vtko:=by decide+kernel
theorem v_mark:dgb (hout vtk (be64 0++be64 0++vc1)) 0=253:=by decide+kernel
theorem v_marko:dgb (hout vtko (be64 0++be64 0++vc1)) 0=188:=by decide+kernel
end
section
open Go.RowKit
set_option maxRecDepth 20000
theorem vopenL_seal (m:List UInt8) (g n:Nat) (b:List UInt8) (h:b.length≤65504):openL m g n (sealL m g n b)=(b,0):=by
 have e1:(sealL m g n b).length-32=(stm (ckB m g) (nonB g n) b).length:=by rw [sealL_length,stm_length];omega
 have e2:(sealL m g n b).take ((sealL m g n b).length-32)=stm (ckB m g) (nonB g n) b:=by rw [e1,sealL,List.take_left]
 have e3:(sealL m g n b).drop ((sealL m g n b).length-32)=dgl (markL m g n (stm (ckB m g) (nonB g n) b)):=by rw [e1,sealL,List.drop_left]
 unfold openL
 rw [e2,e3,if_pos ⟨by rw [sealL_length];omega,by rw [sealL_length];omega,rfl⟩,stm_stm]
theorem loadV_length (m:List UInt8) (l:List DeedP) (x:DeedP):(loadV m l x).length=(bytesD x).length+40:=by
 unfold loadV
 rw [List.length_append,be8_length,sealL_length]
 omega
theorem num_load (m:List UInt8) (l:List DeedP) (x:DeedP) (hk:OkD x):numC ⟨loadV m l x,false⟩=(x.game,⟨sealL m x.game.toNat (ofG l x.game).length (bytesD x),false⟩):=ccod_num.back x.game _ false hk.game
theorem game_le {l:List DeedP} {x:DeedP} (hf:followsD l x=true):0≤x.game∧x.game≤(gamesN l:Int):=by
 have h:=follows_game hf
 refine ⟨h.1,?_⟩
 by_cases hk:x.kind=1
 ·have:=h.2.2.2 hk;omega
 ·have:=h.2.2.1 hk;omega
theorem unload_load {m:List UInt8} {l:List DeedP} {x:DeedP} (hm:mayD x=true) (hf:followsD l x=true) (hk:OkD x) (hz:(bytesD x).length≤65504):unloadV m l (loadV m l x)=(x,true):=by
 have hg:=game_le hf
 unfold unloadV
 rw [num_load m l x hk]
 dsimp only
 rw [if_neg (by simp;omega),vopenL_seal m _ _ _ hz,if_neg (by simp),read_back x hk hm]
 simp [hf]
def one1 (nm:Name) (b:List UInt8) (s:Nat):DiskP:=⟨[⟨nm,b,s⟩],false,false,0,[]⟩
section
variable {nm:Name} {b l:List UInt8} {s:Nat}
theorem one_find:findP (one1 nm b s) nm=some ⟨nm,b,s⟩:=by simp [findP,one1]
theorem one_read:readP (one1 nm b s) nm=(b,0):=readP_of rfl one_find
theorem one_append (h:b.length+l.length≤1048576):appendP (one1 nm b s) nm l=(one1 nm (b++l) s,0):=by
 unfold appendP mayP
 rw [one_find,if_neg (by simp [one1])]
 dsimp only
 rw [if_neg (by unfold maxFileN;omega)]
 simp [goesP,updP,updF,one1]
theorem one_sync:syncP (one1 nm b s) nm=(one1 nm b b.length,0):=by
 unfold syncP mayP
 rw [one_find,if_neg (by simp [one1])]
 simp [goesP,updP,updF,one1]
theorem one_cut {k:Nat} (h:k≤b.length):cutP (one1 nm b s) nm (k:Int)=(one1 nm (b.take k) k,0):=by
 unfold cutP mayP
 rw [one_find,if_neg (by simp [one1])]
 dsimp only
 rw [if_neg (by omega)]
 simp [updP,updF,one1]
theorem scan_all {ls:List (List UInt8)} (hf:Fair ls) (hl:ls.length≤4096):scan most (records ls)=(ls,[]):=by
 have hsc:=scan_records most ls [] hf (by rw [most_is];exact hl)
 have e0:scan (most-ls.length) []=([],[]):=scan_stop (scans_short (by simp))
 rw [List.append_nil,e0] at hsc
 simpa using hsc
theorem one_open {ls:List (List UInt8)} (hf:Fair ls) (hl:ls.length≤4096):openE (one1 nm (records ls) s) nm=0∧openD (one1 nm (records ls) s) nm=one1 nm (records ls) (records ls).length∧openB (one1 nm (records ls) s) nm=(ls,[])∧openN (one1 nm (records ls) s) nm=0:=by
 have hB:openB (one1 nm (records ls) s) nm=(ls,[]):=by
  unfold openB
  rw [one_read]
  exact scan_all hf hl
 have hM:openMk (one1 nm (records ls) s) nm=(one1 nm (records ls) s,0):=by
  unfold openMk
  rw [one_read]
  rfl
 have hC:openCut (one1 nm (records ls) s) nm=(one1 nm (records ls) s,0):=by
  unfold openCut
  rw [hB,if_pos (show ([]:List UInt8).length=0 from rfl),hM]
 have hS:openSync (one1 nm (records ls) s) nm=(one1 nm (records ls) (records ls).length,0):=by
  unfold openSync
  rw [hC]
  exact one_sync
 have hE:openE (one1 nm (records ls) s) nm=0:=by
  unfold openE
  rw [hM,hC,hS]
  rfl
 refine ⟨hE,?_,hB,?_⟩
 ·unfold openD
  rw [hM,hC,hS]
  rfl
 ·unfold openN
  rw [if_pos hE,hB]
  rfl
end
theorem new_open {nm:Name} (hn:okName nm=true):openE wk0 nm=0∧openD wk0 nm=one1 nm [] 0∧openB wk0 nm=([],[])∧openN wk0 nm=0:=by
 have hr:readP wk0 nm=([],4):=rfl
 have hB:openB wk0 nm=([],[]):=by
  unfold openB
  rw [hr]
  exact scan_stop (scans_short (by simp))
 have hM:openMk wk0 nm=(one1 nm [] 0,0):=by
  unfold openMk
  rw [hr,if_pos rfl]
  unfold makeP
  rw [if_neg (by simp [wk0]),if_neg (by simp [hn]),if_neg (by simp [findP,wk0]),if_neg (by simp [wk0])]
  rfl
 have hC:openCut wk0 nm=(one1 nm [] 0,0):=by
  unfold openCut
  rw [hB,if_pos (show ([]:List UInt8).length=0 from rfl),hM]
 have hS:openSync wk0 nm=(one1 nm [] 0,0):=by
  unfold openSync
  rw [hC]
  exact one_sync
 have hE:openE wk0 nm=0:=by
  unfold openE
  rw [hM,hC,hS]
  rfl
 refine ⟨hE,?_,hB,?_⟩
 ·unfold openD
  rw [hM,hC,hS]
  rfl
 ·unfold openN
  rw [if_pos hE,hB]
  rfl
theorem new_vopen {nm:Name} (hn:okName nm=true) (m:List UInt8):vopE wk0 nm m=0∧vopD wk0 nm m=one1 nm [] 0∧vopL wk0 nm m=[]∧vopN wk0 nm m=0∧vopLs wk0 nm m=[]:=by
 obtain ⟨h1,h2,h3,h4⟩:=new_open hn
 have hL:vopL wk0 nm m=[]:=by unfold vopL;rw [h3];rfl
 have hF:vopFull wk0 nm m=true:=by unfold vopFull;rw [hL,h3];rfl
 refine ⟨?_,?_,hL,?_,?_⟩
 ·unfold vopE;rw [h1,if_neg (by simp),if_pos hF]
 ·unfold vopD;rw [h1,if_neg (by simp),if_pos hF,h2]
 ·unfold vopN;rw [if_pos hF,h4]
 ·unfold vopLs;rw [h3];simp
theorem one_put {nm:Name} {b:List UInt8} {s:Nat} {V:VaultR} {x:DeedP} (hnm:V.R.nm=nm) (hd:V.down=false) (hm:mayD x=true) (hf:followsD V.l x=true) (hz:(bytesD x).length≤65000) (hl:V.R.ls.length<4096) (hb:b.length+(bytesD x).length+48≤1048576):
  putE (one1 nm b s) V x=0∧putD (one1 nm b s) V x=one1 nm (b++record (loadV V.m V.l x)) (b++record (loadV V.m V.l x)).length∧putLs (one1 nm b s) V x=V.R.ls++ [loadV V.m V.l x]∧putDn (one1 nm b s) V x=false:=by
 have hlen:=loadV_length V.m V.l x
 have hr:recErr (loadV V.m V.l x).length=0:=by unfold recErr;rw [if_neg (by omega),if_neg (by omega)]
 have happ:=one_append (nm:=nm) (b:=b) (s:=s) (l:=record (loadV V.m V.l x)) (by rw [record_length];omega)
 have hA:putA (one1 nm b s) V x=0:=by
  unfold putA lappE
  rw [hr,if_neg (by simp),if_neg (by omega),hnm,happ]
 have hD:lappD (one1 nm b s) V.R (loadV V.m V.l x)=one1 nm (b++record (loadV V.m V.l x)) s:=by
  unfold lappD
  rw [hr,if_neg (by simp),if_neg (by omega),hnm,happ]
 have hS:putS (one1 nm b s) V x=(one1 nm (b++record (loadV V.m V.l x)) (b++record (loadV V.m V.l x)).length,0):=by
  unfold putS
  rw [hD,hnm]
  exact one_sync
 have h1:¬V.down=true:=by simp [hd]
 have h2:¬putOk V x=false:=by unfold putOk;simp [hm,hf]
 have h3:¬65504<(bytesD x).length:=by omega
 have h4:¬putA (one1 nm b s) V x≠0:=by simp [hA]
 refine ⟨?_,?_,?_,?_⟩
 ·unfold putE;rw [if_neg h1,if_neg h2,if_neg h3,if_neg h4,hS]
 ·unfold putD;rw [if_neg h1,if_neg h2,if_neg h3,if_neg h4,hS]
 ·unfold putLs;rw [if_neg h1,if_neg h2,if_neg h3,if_neg h4]
 ·unfold putDn;rw [if_neg h1,if_neg h2,if_neg h3,if_neg h4,hS];rfl
def nmJ:Name:=⟨#[106,111,117,114,110,97,108]⟩
def begD:DeedP:=⟨1,0,0,emN,⟨#[97,110,110]⟩,⟨#[98,111,98]⟩,[1,2],[3],[5],zeroA⟩
def badDd:DeedP:=⟨2,5,0,emN,emN,emN,[],[],[],zeroA⟩
def givA:ActionP:={zeroA with op:=4}
def givD:DeedP:=⟨2,0,0,emN,emN,emN,[],[],[],givA⟩
theorem okJ:okName nmJ=true:=by decide
theorem may_beg:mayD begD=true:=by decide+kernel
theorem may_giv:mayD givD=true:=by decide+kernel
theorem fol_beg:followsD [] begD=true:=by decide
theorem fol_bad:followsD [begD] badDd=false:=by decide
theorem fol_giv:followsD [begD] givD=true:=by decide
theorem okA_zero:okAction zeroA:=by
 refine ⟨?_,?_,?_,?_,?_,?_⟩
 all_goals first|(unfold wf8 wf64;decide)|(unfold wf8;decide)|(unfold wf64;decide)|(refine ⟨fun x hx=> ?_,?_⟩<;>first|(cases hx;done)|(unfold wf64;decide)|decide)
theorem okL_small {l:List Int} (h:∀x∈l,0≤x∧x≤1000) (hl:l.length≤1000):okL l:=by
 refine ⟨fun x hx=> ?_,wf64_small (by omega)⟩
 have:=h x hx
 obtain ⟨n,rfl⟩:∃n:Nat,x=(n:Int):=⟨x.toNat,by omega⟩
 exact wf64_small (by omega)
theorem ok_beg:OkD begD:=by
 refine ⟨by unfold wf8;decide,by unfold wf64;decide,by unfold wf64;decide,by unfold strZ;decide,by unfold strZ;decide,by unfold strZ;decide,okL_small (by decide) (by decide),okL_small (by decide) (by decide),okL_small (by decide) (by decide),okA_zero⟩
theorem ok_giv:OkD givD:=by
 have h:=okA_zero
 refine ⟨by unfold wf8;decide,by unfold wf64;decide,by unfold wf64;decide,by unfold strZ;decide,by unfold strZ;decide,by unfold strZ;decide,okL_small (by decide) (by decide),okL_small (by decide) (by decide),okL_small (by decide) (by decide),?_⟩
 exact ⟨by unfold wf8;decide,h.2⟩
theorem bytes_beg:bytesD begD=vb1:=by decide+kernel
theorem len_giv:(bytesD givD).length≤100:=by decide+kernel
def L1:List UInt8:=loadV vmast [] begD
def L2:List UInt8:=loadV vmast [begD] givD
theorem L1_len:L1.length=143:=by unfold L1;rw [loadV_length,bytes_beg];rfl
theorem other_fails:unloadV voth [] L1=(zeroD,false):=by
 have hop:openL voth 0 0 (sealL vmast 0 0 vb1)=([],60):=by
  have hl:vb1.length=103:=rfl
  have hsl:(sealL vmast 0 0 vb1).length=135:=by rw [sealL_length,hl]
  have e1:(sealL vmast 0 0 vb1).length-32=(stm (ckB vmast 0) (nonB 0 0) vb1).length:=by rw [sealL_length,stm_length];omega
  have e2:(sealL vmast 0 0 vb1).take ((sealL vmast 0 0 vb1).length-32)=vc1:=by rw [e1,sealL,List.take_left,v_stm]
  have e3:(sealL vmast 0 0 vb1).drop ((sealL vmast 0 0 vb1).length-32)=dgl (markL vmast 0 0 vc1):=by rw [e1,sealL,List.drop_left,v_stm]
  unfold openL
  rw [e2,e3,if_neg]
  rintro ⟨_,_,h⟩
  have h0:=congrArg (fun l=>l.getD 0 0) h
  unfold markL at h0
  rw [v_tk,v_tko] at h0
  have h1:dgb (hout vtk (be64 0++be64 0++vc1)) 0=dgb (hout vtko (be64 0++be64 0++vc1)) 0:=by simpa [dgl] using h0
  rw [v_mark,v_marko] at h1
  exact absurd h1 (by decide)
 have hn:numC ⟨L1,false⟩=(0,⟨sealL vmast 0 0 vb1,false⟩):=by
  have h:=num_load vmast [] begD ok_beg
  rw [bytes_beg] at h
  exact h
 generalize sealL vmast 0 0 vb1=S at hop hn
 have hop':openL voth (Int.toNat 0) (ofG ([]:List DeedP) 0).length S=([],60):=hop
 unfold unloadV
 rw [hn]
 dsimp only
 rw [if_neg (by decide)]
 first
  |rw [hop']
  |rw [hop]
 rw [if_pos (by decide)]
theorem L2_len:L2.length=(bytesD givD).length+40:=loadV_length _ _ _
theorem wk_fair:Fair [L1,L2]:=by
 intro l hl
 have h1:=L1_len
 have h2:=L2_len
 have h3:=len_giv
 rcases List.mem_cons.1 hl with rfl|hl
 ·omega
 ·rw [List.mem_singleton.1 hl];omega
theorem wk_scan:scanV vmast [] [L1,L2]=[begD,givD]:=by
 have h1:unloadV vmast [] L1=(begD,true):=unload_load may_beg fol_beg ok_beg (by rw [bytes_beg];decide)
 have h2:unloadV vmast [begD] L2=(givD,true):=unload_load may_giv fol_giv ok_giv (by have:=len_giv;omega)
 rw [scanV,h1,if_pos rfl,List.nil_append,scanV,h2,if_pos rfl]
 rfl
def wkD:DiskP:=one1 nmJ (records [L1,L2]) (records [L1,L2]).length
theorem wk_right:vopE wkD nmJ vmast=0∧vopL wkD nmJ vmast=[begD,givD]∧vopN wkD nmJ vmast=0:=by
 obtain ⟨h1,h2,h3,h4⟩:=one_open (nm:=nmJ) (s:=(records [L1,L2]).length) wk_fair (by decide)
 have hL:vopL wkD nmJ vmast=[begD,givD]:=by unfold vopL wkD;rw [h3];exact wk_scan
 have hF:vopFull wkD nmJ vmast=true:=by unfold vopFull;rw [hL];unfold wkD;rw [h3];rfl
 refine ⟨?_,hL,?_⟩
 ·unfold vopE;rw [hF];unfold wkD;rw [h1,if_neg (by simp),if_pos rfl]
 ·unfold vopN;rw [hF,if_pos rfl];exact h4
theorem wk_wrong:vopE wkD nmJ voth=0∧vopL wkD nmJ voth=[]∧0<vopN wkD nmJ voth:=by
 obtain ⟨h1,h2,h3,h4⟩:=one_open (nm:=nmJ) (s:=(records [L1,L2]).length) wk_fair (by decide)
 have hL:vopL wkD nmJ voth=[]:=by unfold vopL wkD;rw [h3];show scanV voth [] [L1,L2]=[];rw [scanV,other_fails,if_neg (by simp)]
 have hF:vopFull wkD nmJ voth=false:=by unfold vopFull;rw [hL];unfold wkD;rw [h3];rfl
 have hAt:vopAt wkD nmJ voth=0:=by unfold vopAt;rw [hL];rfl
 have hcut:vopCut wkD nmJ voth=(one1 nmJ [] 0,0):=by
  unfold vopCut
  rw [hAt]
  show cutP (openD (one1 nmJ (records [L1,L2]) (records [L1,L2]).length) nmJ) nmJ ((0:Nat):Int)=_
  rw [h2,one_cut (Nat.zero_le _)]
  rfl
 obtain ⟨g1,g2,g3,g4⟩:=one_open (nm:=nmJ) (s:=0) (ls:=[]) (fun x hx=>by cases hx) (by decide)
 refine ⟨?_,hL,?_⟩
 ·unfold vopE
  rw [hF,hcut]
  unfold wkD
  rw [h1,if_neg (by simp),if_neg (by simp),if_neg (by simp)]
  exact g1
 ·unfold vopN
  rw [hF,hAt,if_neg (by simp)]
  have e:(records (openB wkD nmJ).1).length=151+(8+L2.length):=by
   unfold wkD
   rw [h3]
   show (records [L1,L2]).length=_
   simp [records,record_length,L1_len]
  omega
theorem wk_crash:(openP (crashAll wkD []).1).1=wkD:=by
 unfold wkD one1 crashAll openP crashP crashF
 simp [keepN]
end
end Go.Proofs.YtioigihakjlopaaGreat
