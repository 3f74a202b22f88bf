/- Sealed records in plain words. -/
import Derived.Test.YtiadhcipfgckoaaMacRKey
import Derived.Test.YtiadhcipfgckoaaAesRefStream
namespace Go.Proofs.Ytiadhcipfgckoaa
open Go.RowKit

def nCipher : List UInt8 := [99, 105, 112, 104, 101, 114]
def nTag : List UInt8 := [116, 97, 103]
/-- The two keys of a master's key and a game, byte by byte. -/
def ckey (m : List UInt8) (g i : Nat) : UInt8 := dgb (hout m (keyb nCipher 6 g)) i
def tkey (m : List UInt8) (g i : Nat) : UInt8 := dgb (hout m (keyb nTag 3 g)) i
def ckB (m : List UInt8) (g : Nat) : Nat → BitVec 8 := fun i => (ckey m g i).toBitVec
def tkL (m : List UInt8) (g : Nat) : List UInt8 := (List.range 32).map (tkey m g)
def nonL (g n : Nat) : List UInt8 := (be64 g).drop 4 ++ be64 n
def nonB (g n : Nat) : Nat → BitVec 8 := fun i => ((nonL g n).getD i 0).toBitVec
def markL (m : List UInt8) (g n : Nat) (c : List UInt8) : List UInt8 := hout (tkL m g) (be64 g ++ be64 n ++ c)
/-- A record of bytes. -/
def sealL (m : List UInt8) (g n : Nat) (b : List UInt8) : List UInt8 := stm (ckB m g) (nonB g n) b ++ dgl (markL m g n (stm (ckB m g) (nonB g n) b))
def sizeI (x : Int) : Int := if x < 0 ∨ 65504 < x then 0 else x + 32
theorem tkL_length (m : List UInt8) (g : Nat) : (tkL m g).length = 32 := by simp [tkL]
theorem nonL_length (g n : Nat) : (nonL g n).length = 12 := by simp [nonL, be64_length]
end Go.Proofs.Ytiadhcipfgckoaa
