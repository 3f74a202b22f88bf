/- The document's own block, encrypted step by step. No program is named. -/
import Derived.Test.YtjkdgaehnachdaaAesPlain2
namespace Go.Proofs.Ytjkdgaehnachdaa
open Go.RowKit

def wk : Nat → BitVec 8 := fun j => BitVec.ofNat 8 j
def wb : Nat → BitVec 8 := fun j => BitVec.ofNat 8 (17 * j)
theorem wk0 : rk wk 0 = lst [0#8, 1#8, 2#8, 3#8, 4#8, 5#8, 6#8, 7#8, 8#8, 9#8, 10#8, 11#8, 12#8, 13#8, 14#8, 15#8] := tb_lst rfl (by decide +kernel)
theorem rc0 : rc 0 = 1#8 := rfl
theorem rc1 : rc 1 = 2#8 := by rw [rc, rc0]; decide +kernel
theorem rc2 : rc 2 = 4#8 := by rw [rc, rc1]; decide +kernel
theorem rc3 : rc 3 = 8#8 := by rw [rc, rc2]; decide +kernel
theorem rc4 : rc 4 = 16#8 := by rw [rc, rc3]; decide +kernel
theorem rc5 : rc 5 = 32#8 := by rw [rc, rc4]; decide +kernel
theorem rc6 : rc 6 = 64#8 := by rw [rc, rc5]; decide +kernel
theorem rc7 : rc 7 = 128#8 := by rw [rc, rc6]; decide +kernel
theorem rc8 : rc 8 = 27#8 := by rw [rc, rc7]; decide +kernel
theorem rc9 : rc 9 = 54#8 := by rw [rc, rc8]; decide +kernel
theorem rc10 : rc 10 = 108#8 := by rw [rc, rc9]; decide +kernel
theorem wk1 : rk wk 1 = lst [214#8, 170#8, 116#8, 253#8, 210#8, 175#8, 114#8, 250#8, 218#8, 166#8, 120#8, 241#8, 214#8, 171#8, 118#8, 254#8] := by rw [rk, wk0, rc0]; exact tb_lst rfl (by decide +kernel)
theorem wk2 : rk wk 2 = lst [182#8, 146#8, 207#8, 11#8, 100#8, 61#8, 189#8, 241#8, 190#8, 155#8, 197#8, 0#8, 104#8, 48#8, 179#8, 254#8] := by rw [rk, wk1, rc1]; exact tb_lst rfl (by decide +kernel)
theorem wk3 : rk wk 3 = lst [182#8, 255#8, 116#8, 78#8, 210#8, 194#8, 201#8, 191#8, 108#8, 89#8, 12#8, 191#8, 4#8, 105#8, 191#8, 65#8] := by rw [rk, wk2, rc2]; exact tb_lst rfl (by decide +kernel)
theorem wk4 : rk wk 4 = lst [71#8, 247#8, 247#8, 188#8, 149#8, 53#8, 62#8, 3#8, 249#8, 108#8, 50#8, 188#8, 253#8, 5#8, 141#8, 253#8] := by rw [rk, wk3, rc3]; exact tb_lst rfl (by decide +kernel)
theorem wk5 : rk wk 5 = lst [60#8, 170#8, 163#8, 232#8, 169#8, 159#8, 157#8, 235#8, 80#8, 243#8, 175#8, 87#8, 173#8, 246#8, 34#8, 170#8] := by rw [rk, wk4, rc4]; exact tb_lst rfl (by decide +kernel)
theorem wk6 : rk wk 6 = lst [94#8, 57#8, 15#8, 125#8, 247#8, 166#8, 146#8, 150#8, 167#8, 85#8, 61#8, 193#8, 10#8, 163#8, 31#8, 107#8] := by rw [rk, wk5, rc5]; exact tb_lst rfl (by decide +kernel)
theorem wk7 : rk wk 7 = lst [20#8, 249#8, 112#8, 26#8, 227#8, 95#8, 226#8, 140#8, 68#8, 10#8, 223#8, 77#8, 78#8, 169#8, 192#8, 38#8] := by rw [rk, wk6, rc6]; exact tb_lst rfl (by decide +kernel)
theorem wk8 : rk wk 8 = lst [71#8, 67#8, 135#8, 53#8, 164#8, 28#8, 101#8, 185#8, 224#8, 22#8, 186#8, 244#8, 174#8, 191#8, 122#8, 210#8] := by rw [rk, wk7, rc7]; exact tb_lst rfl (by decide +kernel)
theorem wk9 : rk wk 9 = lst [84#8, 153#8, 50#8, 209#8, 240#8, 133#8, 87#8, 104#8, 16#8, 147#8, 237#8, 156#8, 190#8, 44#8, 151#8, 78#8] := by rw [rk, wk8, rc8]; exact tb_lst rfl (by decide +kernel)
theorem wk10 : rk wk 10 = lst [19#8, 17#8, 29#8, 127#8, 227#8, 148#8, 74#8, 23#8, 243#8, 7#8, 167#8, 139#8, 77#8, 43#8, 48#8, 197#8] := by rw [rk, wk9, rc9]; exact tb_lst rfl (by decide +kernel)
theorem ws0 : encs wk wb 0 = lst [0#8, 16#8, 32#8, 48#8, 64#8, 80#8, 96#8, 112#8, 128#8, 144#8, 160#8, 176#8, 192#8, 208#8, 224#8, 240#8] := by rw [encs, wk0]; exact tb_lst rfl (by decide +kernel)
theorem ws1 : encs wk wb 1 = lst [137#8, 216#8, 16#8, 232#8, 133#8, 90#8, 206#8, 104#8, 45#8, 24#8, 67#8, 216#8, 203#8, 18#8, 143#8, 228#8] := by rw [encs, ws0, rnd, wk1]; exact tb_lst rfl (by decide +kernel)
theorem ws2 : encs wk wb 2 = lst [73#8, 21#8, 89#8, 143#8, 85#8, 229#8, 215#8, 160#8, 218#8, 202#8, 148#8, 250#8, 31#8, 10#8, 99#8, 247#8] := by rw [encs, ws1, rnd, wk2]; exact tb_lst rfl (by decide +kernel)
theorem ws3 : encs wk wb 3 = lst [250#8, 99#8, 106#8, 40#8, 37#8, 179#8, 57#8, 201#8, 64#8, 102#8, 138#8, 49#8, 87#8, 36#8, 77#8, 23#8] := by rw [encs, ws2, rnd, wk3]; exact tb_lst rfl (by decide +kernel)
theorem ws4 : encs wk wb 4 = lst [36#8, 114#8, 64#8, 35#8, 105#8, 102#8, 179#8, 250#8, 110#8, 210#8, 117#8, 50#8, 136#8, 66#8, 91#8, 108#8] := by rw [encs, ws3, rnd, wk4]; exact tb_lst rfl (by decide +kernel)
theorem ws5 : encs wk wb 5 = lst [200#8, 22#8, 119#8, 188#8, 155#8, 122#8, 201#8, 59#8, 37#8, 2#8, 121#8, 146#8, 176#8, 38#8, 25#8, 150#8] := by rw [encs, ws4, rnd, wk5]; exact tb_lst rfl (by decide +kernel)
theorem ws6 : encs wk wb 6 = lst [198#8, 47#8, 225#8, 9#8, 247#8, 94#8, 237#8, 195#8, 204#8, 121#8, 57#8, 93#8, 132#8, 249#8, 207#8, 93#8] := by rw [encs, ws5, rnd, wk6]; exact tb_lst rfl (by decide +kernel)
theorem ws7 : encs wk wb 7 = lst [209#8, 135#8, 108#8, 15#8, 121#8, 196#8, 48#8, 10#8, 180#8, 85#8, 148#8, 173#8, 214#8, 111#8, 244#8, 31#8] := by rw [encs, ws6, rnd, wk7]; exact tb_lst rfl (by decide +kernel)
theorem ws8 : encs wk wb 8 = lst [253#8, 227#8, 186#8, 210#8, 5#8, 229#8, 208#8, 215#8, 53#8, 71#8, 150#8, 78#8, 241#8, 254#8, 55#8, 241#8] := by rw [encs, ws7, rnd, wk8]; exact tb_lst rfl (by decide +kernel)
theorem ws9 : encs wk wb 9 = lst [189#8, 110#8, 124#8, 61#8, 242#8, 181#8, 119#8, 158#8, 11#8, 97#8, 33#8, 110#8, 139#8, 16#8, 182#8, 137#8] := by rw [encs, ws8, rnd, wk9]; exact tb_lst rfl (by decide +kernel)
theorem ws10 : encs wk wb 10 = lst [105#8, 196#8, 224#8, 216#8, 106#8, 123#8, 4#8, 48#8, 216#8, 205#8, 183#8, 128#8, 112#8, 180#8, 197#8, 90#8] := by rw [encs, ws9, rnd, wk10]; exact tb_lst rfl (by decide +kernel)
theorem wake_enc : enc wk wb = lst [105#8, 196#8, 224#8, 216#8, 106#8, 123#8, 4#8, 48#8, 216#8, 205#8, 183#8, 128#8, 112#8, 180#8, 197#8, 90#8] := ws10
end Go.Proofs.Ytjkdgaehnachdaa
