/- The record of the document's own example, reckoned step by step. -/
import Derived.Test.YtiadhcipfgckoaaSealPlain
namespace Go.Proofs.Ytiadhcipfgckoaa
open Go.RowKit

def mast : List UInt8 := [109, 97, 115, 116, 101, 114]
def hello : List UInt8 := [104, 101, 108, 108, 111]
def sck : Nat → BitVec 8 := ckB mast 5
def scb : Nat → BitVec 8 := ctr (nonB 5 7) 0
theorem sk0 : rk sck 0 = lst [117#8, 50#8, 207#8, 239#8, 28#8, 161#8, 215#8, 12#8, 95#8, 80#8, 244#8, 189#8, 24#8, 65#8, 142#8, 204#8] := tb_lst rfl (by decide +kernel)
theorem src0 : rc 0 = 1#8 := rfl
theorem src1 : rc 1 = 2#8 := by rw [rc, src0]; decide +kernel
theorem src2 : rc 2 = 4#8 := by rw [rc, src1]; decide +kernel
theorem src3 : rc 3 = 8#8 := by rw [rc, src2]; decide +kernel
theorem src4 : rc 4 = 16#8 := by rw [rc, src3]; decide +kernel
theorem src5 : rc 5 = 32#8 := by rw [rc, src4]; decide +kernel
theorem src6 : rc 6 = 64#8 := by rw [rc, src5]; decide +kernel
theorem src7 : rc 7 = 128#8 := by rw [rc, src6]; decide +kernel
theorem src8 : rc 8 = 27#8 := by rw [rc, src7]; decide +kernel
theorem src9 : rc 9 = 54#8 := by rw [rc, src8]; decide +kernel
theorem src10 : rc 10 = 108#8 := by rw [rc, src9]; decide +kernel
theorem sk1 : rk sck 1 = lst [247#8, 43#8, 132#8, 66#8, 235#8, 138#8, 83#8, 78#8, 180#8, 218#8, 167#8, 243#8, 172#8, 155#8, 41#8, 63#8] := by rw [rk, sk0, src0]; exact tb_lst rfl (by decide +kernel)
theorem sk2 : rk sck 2 = lst [225#8, 142#8, 241#8, 211#8, 10#8, 4#8, 162#8, 157#8, 190#8, 222#8, 5#8, 110#8, 18#8, 69#8, 44#8, 81#8] := by rw [rk, sk1, src1]; exact tb_lst rfl (by decide +kernel)
theorem sk3 : rk sck 3 = lst [139#8, 255#8, 32#8, 26#8, 129#8, 251#8, 130#8, 135#8, 63#8, 37#8, 135#8, 233#8, 45#8, 96#8, 171#8, 184#8] := by rw [rk, sk2, src2]; exact tb_lst rfl (by decide +kernel)
theorem sk4 : rk sck 4 = lst [83#8, 157#8, 76#8, 194#8, 210#8, 102#8, 206#8, 69#8, 237#8, 67#8, 73#8, 172#8, 192#8, 35#8, 226#8, 20#8] := by rw [rk, sk3, src3]; exact tb_lst rfl (by decide +kernel)
theorem sk5 : rk sck 5 = lst [101#8, 5#8, 182#8, 120#8, 183#8, 99#8, 120#8, 61#8, 90#8, 32#8, 49#8, 145#8, 154#8, 3#8, 211#8, 133#8] := by rw [rk, sk4, src4]; exact tb_lst rfl (by decide +kernel)
theorem sk6 : rk sck 6 = lst [62#8, 99#8, 33#8, 192#8, 137#8, 0#8, 89#8, 253#8, 211#8, 32#8, 104#8, 108#8, 73#8, 35#8, 187#8, 233#8] := by rw [rk, sk5, src5]; exact tb_lst rfl (by decide +kernel)
theorem sk7 : rk sck 7 = lst [88#8, 137#8, 63#8, 251#8, 209#8, 137#8, 102#8, 6#8, 2#8, 169#8, 14#8, 106#8, 75#8, 138#8, 181#8, 131#8] := by rw [rk, sk6, src6]; exact tb_lst rfl (by decide +kernel)
theorem sk8 : rk sck 8 = lst [166#8, 92#8, 211#8, 72#8, 119#8, 213#8, 181#8, 78#8, 117#8, 124#8, 187#8, 36#8, 62#8, 246#8, 14#8, 167#8] := by rw [rk, sk7, src7]; exact tb_lst rfl (by decide +kernel)
theorem sk9 : rk sck 9 = lst [255#8, 247#8, 143#8, 250#8, 136#8, 34#8, 58#8, 180#8, 253#8, 94#8, 129#8, 144#8, 195#8, 168#8, 143#8, 55#8] := by rw [rk, sk8, src8]; exact tb_lst rfl (by decide +kernel)
theorem sk10 : rk sck 10 = lst [11#8, 132#8, 21#8, 212#8, 131#8, 166#8, 47#8, 96#8, 126#8, 248#8, 174#8, 240#8, 189#8, 80#8, 33#8, 199#8] := by rw [rk, sk9, src9]; exact tb_lst rfl (by decide +kernel)
theorem ss0 : encs sck scb 0 = lst [117#8, 50#8, 207#8, 234#8, 28#8, 161#8, 215#8, 12#8, 95#8, 80#8, 244#8, 186#8, 24#8, 65#8, 142#8, 204#8] := by rw [encs, sk0]; exact tb_lst rfl (by decide +kernel)
theorem ss1 : encs sck scb 1 = lst [116#8, 67#8, 147#8, 229#8, 163#8, 28#8, 60#8, 174#8, 219#8, 115#8, 253#8, 87#8, 114#8, 150#8, 188#8, 13#8] := by rw [encs, ss0, rnd, sk1]; exact tb_lst rfl (by decide +kernel)
theorem ss2 : encs sck scb 2 = lst [226#8, 20#8, 53#8, 3#8, 40#8, 125#8, 157#8, 192#8, 68#8, 199#8, 184#8, 33#8, 12#8, 76#8, 86#8, 214#8] := by rw [encs, ss1, rnd, sk2]; exact tb_lst rfl (by decide +kernel)
theorem ss3 : encs sck scb 3 = lst [32#8, 192#8, 158#8, 205#8, 114#8, 235#8, 132#8, 90#8, 94#8, 119#8, 87#8, 20#8, 124#8, 110#8, 15#8, 228#8] := by rw [encs, ss2, rnd, sk3]; exact tb_lst rfl (by decide +kernel)
theorem ss4 : encs sck scb 4 = lst [52#8, 103#8, 31#8, 96#8, 157#8, 240#8, 75#8, 103#8, 82#8, 157#8, 65#8, 183#8, 144#8, 71#8, 227#8, 46#8] := by rw [encs, ss3, rnd, sk4]; exact tb_lst rfl (by decide +kernel)
theorem ss5 : encs sck scb 5 = lst [104#8, 177#8, 108#8, 61#8, 40#8, 98#8, 49#8, 43#8, 228#8, 165#8, 158#8, 224#8, 212#8, 21#8, 171#8, 90#8] := by rw [encs, ss4, rnd, sk5]; exact tb_lst rfl (by decide +kernel)
theorem ss6 : encs sck scb 6 = lst [228#8, 202#8, 1#8, 201#8, 174#8, 185#8, 198#8, 139#8, 75#8, 250#8, 240#8, 39#8, 188#8, 83#8, 150#8, 231#8] := by rw [encs, ss5, rnd, sk6]; exact tb_lst rfl (by decide +kernel)
theorem ss7 : encs sck scb 7 = lst [104#8, 87#8, 164#8, 169#8, 56#8, 65#8, 232#8, 45#8, 18#8, 98#8, 239#8, 79#8, 101#8, 12#8, 152#8, 111#8] := by rw [encs, ss6, rnd, sk7]; exact tb_lst rfl (by decide +kernel)
theorem ss8 : encs sck scb 8 = lst [197#8, 214#8, 83#8, 144#8, 9#8, 132#8, 250#8, 22#8, 116#8, 81#8, 109#8, 120#8, 86#8, 63#8, 162#8, 163#8] := by rw [encs, ss7, rnd, sk8]; exact tb_lst rfl (by decide +kernel)
theorem ss9 : encs sck scb 9 = lst [127#8, 161#8, 16#8, 124#8, 184#8, 180#8, 62#8, 156#8, 247#8, 77#8, 110#8, 43#8, 42#8, 37#8, 77#8, 71#8] := by rw [encs, ss8, rnd, sk9]; exact tb_lst rfl (by decide +kernel)
theorem ss10 : encs sck scb 10 = lst [217#8, 9#8, 138#8, 116#8, 239#8, 69#8, 204#8, 112#8, 22#8, 199#8, 100#8, 46#8, 88#8, 98#8, 147#8, 54#8] := by rw [encs, ss9, rnd, sk10]; exact tb_lst rfl (by decide +kernel)
theorem s_enc : enc sck scb = lst [217#8, 9#8, 138#8, 116#8, 239#8, 69#8, 204#8, 112#8, 22#8, 199#8, 100#8, 46#8, 88#8, 98#8, 147#8, 54#8] := ss10
def sc5 : List UInt8 := [177, 108, 230, 24, 128]
theorem s_ksb (i : Nat) (h : i < 16) : ksb (ckB mast 5) (nonB 5 7) i = lst [217#8, 9#8, 138#8, 116#8, 239#8, 69#8, 204#8, 112#8, 22#8, 199#8, 100#8, 46#8, 88#8, 98#8, 147#8, 54#8] i := by
  have e : i / 16 = 0 := by omega
  have e2 : i % 16 = i := by omega
  rw [ksb, e, e2]
  exact congrFun s_enc i
theorem s_stm : stm (ckB mast 5) (nonB 5 7) hello = sc5 := by
  have e : (List.range 5).map (fun i => (⟨(hello.getD i 0).toBitVec ^^^ ksb (ckB mast 5) (nonB 5 7) i⟩ : UInt8)) = (List.range 5).map (fun i => (⟨(hello.getD i 0).toBitVec ^^^ lst [217#8, 9#8, 138#8, 116#8, 239#8, 69#8, 204#8, 112#8, 22#8, 199#8, 100#8, 46#8, 88#8, 98#8, 147#8, 54#8] i⟩ : UInt8)) := by
    apply List.map_congr_left
    intro i hi
    rw [s_ksb i (by have := List.mem_range.1 hi; omega)]
  show (List.range 5).map (fun i => (⟨(hello.getD i 0).toBitVec ^^^ ksb (ckB mast 5) (nonB 5 7) i⟩ : UInt8)) = _
  rw [e]
  decide +kernel
def stk5 : List UInt8 := [84, 85, 178, 59, 13, 30, 75, 150, 12, 164, 12, 11, 110, 95, 5, 130, 251, 130, 196, 90, 215, 238, 93, 203, 85, 120, 67, 65, 82, 79, 103, 172]
theorem s_tk : tkL mast 5 = stk5 := by decide +kernel
theorem s_marks : dgb (hout stk5 (be64 5 ++ be64 8 ++ sc5)) 0 ≠ dgb (hout stk5 (be64 5 ++ be64 7 ++ sc5)) 0 := by decide +kernel
end Go.Proofs.Ytiadhcipfgckoaa
