/- The sum of bytes, written in figures; what the document says of two sums. -/
import Derived.Test.YtdokkhjgmhcpkaaShaSum
namespace Go.Proofs.Ytdokkhjgmhcpkaa
open Go.RowKit

set_option maxHeartbeats 1000000 in
set_option maxRecDepth 100000 in
theorem sum_any (l : List UInt8) (a : Option Addr) (len cap : Nat) (w : World) (hl : BytesAt w a l) (hlen : l.length = len) (hm : len < 140737488353000) :
    Calls Try.prog 40 #[.slice a len cap] w fun e w' => e = .returned (.agg (dgA l)) ∧ Below w.heap.size w w' := by
  have HL := Lib.hid hlen
  clear hlen
  go_enter Try.func40, Try.ntmps40
  go_upto_region 1 with (fail)
  refine wp_forget (fun W0 => Blk W0 w.heap.size (vA 32 fun _ => .int .u8 0) 48 ∧ Below w.heap.size w W0) ⟨Blk.new _ _ _, by (try unfold Kept); repeat (first | assumption | exact Below.refl _ _ | exact below_undrew (Below.refl _ _) | exact Below.mono (by assumption) (by first | (simp; done) | (simp; omega) | omega) | refine below_setRow ?_ (by first | (simp; done) | (simp; omega) | omega) _ | refine Below.setCell ?_ (by first | (simp; done) | (simp; omega) | omega) _ | refine Below.alloc ?_ (by first | (simp; done) | (simp; omega) | omega) _ | refine below_drewN ?_ _ | refine Below.drew ?_ | refine below_undrew ?_ | refine below_step ?_ (by assumption))⟩ ?_
  rintro w0 ⟨hR, hb⟩
  obtain ⟨H, hH⟩ : ∃ H, H = w.heap.size := ⟨_, rfl⟩
  rw [← hH] at hR hb ⊢
  have HH := Lib.hid hH
  clear hH
  go_wp2_with fail
  refine (new_any _).mono ?_
  rintro e w1 ⟨g, rfl, hg, hB, hb1⟩
  have hR1 := hR.old hb1
  have hb01 : Below H w w1 := hb.trans (hb1.mono (by have := hR.lt; omega))
  have hHg : H < g := by have := hR.lt; omega
  clear hR hb hg hb1
  go_wp2_with fail
  refine (write_any H g [] l none 0 0 a len cap _ (HashAt.nil hB H) (hl.below (HH.out ▸ hb01)) HL.out (by simp; omega) (by have := hR1.lt; omega)).mono ?_
  rintro e w2 ⟨a2, n2, c2, rfl, hH2, hfr, -⟩
  have hR2 := hfr.blk hR1 (by omega) (by simp [rowB])
  have hb02 : Below H w w2 := hb01.trans (hfr.below (by omega) (by simp [rowB]) (by have := hR1.lt; omega))
  rw [List.nil_append] at hH2
  clear hR1 hb01 hfr hB
  go_wp2_with fail
  refine (hsum_any H g l a2 n2 c2 _ hH2 (by rw [HL.out]; exact hm)).mono ?_
  rintro e w3 ⟨rfl, hb3⟩
  have hR3 := hR2.old hb3
  go_wp2_with (refine wpList_store_blk rfl 48 agg32 (.tmp 2) _ (cells := dgA l) rfl rfl rfl hR3 (vA_size _ _) (vA_size _ _) (vA_one fun _ _ => rfl) ?_)
  refine post_blk rfl agg32 rfl (hR3.setRow _) (vA_size _ _) rfl ⟨rfl, ?_⟩
  have hb03 := hb02.trans (hb3.mono (by have := hR2.lt; omega))
  rw [HH.out] at hb03 ⊢
  exact below_setRow hb03 (by omega) _

/-! ### In figures -/
def figs : List UInt8 := [48, 49, 50, 51, 52, 53, 54, 55, 56, 57, 97, 98, 99, 100, 101, 102]
def fig (d : Nat) : UInt8 := figs.getD d 0
def hexb (x : UInt8) : List UInt8 := [fig (x.toNat / 16), fig (x.toNat % 16)]
def hexk (f : Nat → UInt8) : Nat → List UInt8
  | 0 => []
  | k + 1 => hexk f k ++ hexb (f k)
def HxRel (w : World) (H : Nat) (f : Nat → UInt8) (m : Nat) (s i : Value) (wr : World) : Prop :=
  ∃ k : Nat, m + k = 32 ∧ i = .int .i64 (k : Int) ∧ s = .string (strOf (hexk f k)) ∧ Below H w wr
theorem fig_at (d : Nat) (hd : d < 16) (W : World) : (Instr.index 9 (.string (strOf figs)) (.int .u8 (d : Int))).run Try.prog W = .ok (bv (fig d)) W := by
  have hcs : d = 0 ∨ d = 1 ∨ d = 2 ∨ d = 3 ∨ d = 4 ∨ d = 5 ∨ d = 6 ∨ d = 7 ∨ d = 8 ∨ d = 9 ∨ d = 10 ∨ d = 11 ∨ d = 12 ∨ d = 13 ∨ d = 14 ∨ d = 15 := by omega
  rw [run_index_string W _ _ .u8 (d : Int) Try.underlying9]
  rw [dif_pos ⟨by omega, by show (d : Int) < 16; omega⟩]
  rcases hcs with rfl | rfl | rfl | rfl | rfl | rfl | rfl | rfl | rfl | rfl | rfl | rfl | rfl | rfl | rfl | rfl <;> rfl
theorem strOf_append (a b : List UInt8) : strOf a ++ strOf b = strOf (a ++ b) := ByteArray.mk_append_mk a b
theorem hexk_length (f : Nat → UInt8) : ∀ k, (hexk f k).length = 2 * k
  | 0 => rfl
  | k + 1 => by rw [hexk, List.length_append, hexk_length f k]; simp [hexb]; omega
theorem and15 (x : UInt8) : bits .and .u8 (U8 x) 15 = ((x.toNat % 16 : Nat) : Int) := by
  rw [bits_and_u8]
  show ((BitVec.toNat _ : Nat) : Int) = _
  rw [BitVec.toNat_and, ofInt_U8]
  congr 1
  have h2 : (BitVec.ofInt 8 15).toNat = 2 ^ 4 - 1 := by decide
  rw [h2, Nat.and_two_pow_sub_one_eq_mod]; rfl
theorem aggB32 : AggT Try.prog 48 32 := ⟨⟨_, Try.underlying48, rfl⟩, by kernel_rfl⟩
theorem idxB32 (f : Nat → Value) (t : Nat) (ht : t < 32) (W : World) : (Instr.index 48 (.agg (vA 32 f)) (.int .i64 (t : Int))).run Try.prog W = .ok (f t) W :=
  run_index_arr Try.underlying48 Try.underlying5 rfl u8Info W _ t _ (vA_at f ht) ht
theorem dg_nil : (List.range 32).map (dgb []) = [0xe3, 0xb0, 0xc4, 0x42, 0x98, 0xfc, 0x1c, 0x14, 0x9a, 0xfb, 0xf4, 0xc8, 0x99, 0x6f, 0xb9, 0x24, 0x27, 0xae, 0x41, 0xe4, 0x64, 0x9b, 0x93, 0x4c, 0xa4, 0x95, 0x99, 0x1b, 0x78, 0x52, 0xb8, 0x55] := by decide +kernel
theorem dg_abc : (List.range 32).map (dgb [97, 98, 99]) = [0xba, 0x78, 0x16, 0xbf, 0x8f, 0x01, 0xcf, 0xea, 0x41, 0x41, 0x40, 0xde, 0x5d, 0xae, 0x22, 0x23, 0xb0, 0x03, 0x61, 0xa3, 0x96, 0x17, 0x7a, 0x9c, 0xb4, 0x10, 0xff, 0x61, 0xf2, 0x00, 0x15, 0xad] := by decide +kernel
def at32 (l : List UInt8) (i : Nat) : UInt8 := l.getD i 0
theorem hexk_eq {f g : Nat → UInt8} : ∀ k, (∀ i, i < k → f i = g i) → hexk f k = hexk g k
  | 0, _ => rfl
  | k + 1, h => by rw [hexk, hexk, hexk_eq k fun i hi => h i (by omega), h k (by omega)]
theorem of_map {f : Nat → UInt8} {l : List UInt8} (h : (List.range 32).map f = l) : ∀ i, i < 32 → f i = at32 l i := fun i hi => by
  subst h
  simp [at32, hi]
theorem hex_nil : strOf (hexk (dgb []) 32) = ⟨#[101, 51, 98, 48, 99, 52, 52, 50, 57, 56, 102, 99, 49, 99, 49, 52, 57, 97, 102, 98, 102, 52, 99, 56, 57, 57, 54, 102, 98, 57, 50, 52, 50, 55, 97, 101, 52, 49, 101, 52, 54, 52, 57, 98, 57, 51, 52, 99, 97, 52, 57, 53, 57, 57, 49, 98, 55, 56, 53, 50, 98, 56, 53, 53]⟩ := by
  rw [hexk_eq 32 (of_map dg_nil)]; decide +kernel
theorem hex_abc : strOf (hexk (dgb [97, 98, 99]) 32) = ⟨#[98, 97, 55, 56, 49, 54, 98, 102, 56, 102, 48, 49, 99, 102, 101, 97, 52, 49, 52, 49, 52, 48, 100, 101, 53, 100, 97, 101, 50, 50, 50, 51, 98, 48, 48, 51, 54, 49, 97, 51, 57, 54, 49, 55, 55, 97, 57, 99, 98, 52, 49, 48, 102, 102, 54, 49, 102, 50, 48, 48, 49, 53, 97, 100]⟩ := by
  rw [hexk_eq 32 (of_map dg_abc)]; decide +kernel
end Go.Proofs.Ytdokkhjgmhcpkaa
