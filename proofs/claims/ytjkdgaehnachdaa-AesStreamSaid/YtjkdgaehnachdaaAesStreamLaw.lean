/- Any bytes by a stream, as the document says: the walk of the law. -/
import Derived.Test.YtjkdgaehnachdaaAesRefStream
import Derived.Test.YtjkdgaehnachdaaAesBackLaw
namespace Go.Proofs.Ytjkdgaehnachdaa
open Go.RowKit

set_option maxHeartbeats 1000000 in
set_option maxRecDepth 100000 in
theorem aesStream_any (key nonce : Nat → BitVec 8) (a : Option Addr) (len cap : Nat) (l : List UInt8) (w : World) (hl : BytesAt w a l) (hlen : l.length = len) (hm : len ≤ maxLen) :
    Calls Try.prog 6 #[.agg (fA 16 key), .agg (fA 12 nonce), .slice a len cap] w fun e w' => e = .returned (.bool true) ∧ Below w.heap.size w w' := by
  unfold maxLen at hm
  have HL := Lib.hid hlen
  clear hlen
  by_cases h : 300 < len ∧ len ≤ 65536
  · have t1 : decide ((300 : Int) < (len : Int)) = true := by simp; omega
    have t2 : decide ((len : Int) ≤ 65536) = true := by simp; omega
    go_enter Try.func6, Try.ntmps6
    go_wp2_with fail
    refine (aes_wakes _).mono ?_
    rintro e w1 ⟨rfl, hb1⟩
    go_wp2_with fail
    go_ret
    exact ⟨rfl, below_step (by (try unfold Kept); repeat (first | assumption | exact Below.refl _ _ | exact below_undrew (Below.refl _ _) | exact Below.mono (by assumption) (by first | (simp; done) | (simp; omega) | omega) | refine below_setRow ?_ (by first | (simp; done) | (simp; omega) | omega) _ | refine Below.setCell ?_ (by first | (simp; done) | (simp; omega) | omega) _ | refine Below.alloc ?_ (by first | (simp; done) | (simp; omega) | omega) _ | refine below_drewN ?_ _ | refine Below.drew ?_ | refine below_undrew ?_ | refine below_step ?_ (by assumption))) hb1⟩
  · by_cases h2 : 300 < len
    · have t1 : decide ((300 : Int) < (len : Int)) = true := by simp; omega
      have t2 : decide ((len : Int) ≤ 65536) = false := by simp; omega
      have h3 : 65536 < len := by omega
      go_enter Try.func6, Try.ntmps6
      go_upto_region 3 with (fail)
      refine wp_forget (fun W0 => Blk W0 w.heap.size (fA 16 key) 27 ∧ Blk W0 (w.heap.size + 1) (fA 12 nonce) 30 ∧ Below w.heap.size w W0) ⟨Blk.new2 _ _ _ _, Blk.new2' _ _ _ _, by (try unfold Kept); repeat (first | assumption | exact Below.refl _ _ | exact below_undrew (Below.refl _ _) | exact Below.mono (by assumption) (by first | (simp; done) | (simp; omega) | omega) | refine below_setRow ?_ (by first | (simp; done) | (simp; omega) | omega) _ | refine Below.setCell ?_ (by first | (simp; done) | (simp; omega) | omega) _ | refine Below.alloc ?_ (by first | (simp; done) | (simp; omega) | omega) _ | refine below_drewN ?_ _ | refine Below.drew ?_ | refine below_undrew ?_ | refine below_step ?_ (by assumption))⟩ ?_
      rintro w0 ⟨hK, hN, hb⟩
      go_wp2_with (first | refine wpList_load_blk rfl 27 agg16 _ rfl rfl hK (fA_size _ _) ?_ | refine wpList_load_blk rfl 30 agg12 _ rfl rfl hN (fA_size _ _) ?_)
      refine (stream_long key nonce a len cap _ h3).mono ?_
      rintro e w1 ⟨rfl, hb1⟩
      have hb01 := below_step hb hb1
      replace hK := hK.old hb1
      replace hN := hN.old hb1
      clear hb hb1
      go_wp2_with (first | refine wpList_load_blk rfl 27 agg16 _ rfl rfl hK (fA_size _ _) ?_ | refine wpList_load_blk rfl 30 agg12 _ rfl rfl hN (fA_size _ _) ?_)
      refine (rstream_long key nonce a len cap _ h3).mono ?_
      rintro e w2 ⟨rfl, hb2⟩
      have hb02 := below_step hb01 hb2
      clear hb01 hb2 hK hN
      have s1 := string_of w2 none 0 0 [] (RowAt.nil _ _) rfl w2 (Old.refl _)
      go_wp2_with fail
      refine (aes_wakes _).mono ?_
      rintro e w3 ⟨rfl, hb3⟩
      go_wp2_with fail
      go_ret
      exact ⟨rfl, below_step hb02 hb3⟩
    · have t1 : decide ((300 : Int) < (len : Int)) = false := by simp; omega
      have h3 : len ≤ 65536 := by omega
      go_enter Try.func6, Try.ntmps6
      go_upto_region 3 with (fail)
      refine wp_forget (fun W0 => Blk W0 w.heap.size (fA 16 key) 27 ∧ Blk W0 (w.heap.size + 1) (fA 12 nonce) 30 ∧ Below w.heap.size w W0) ⟨Blk.new2 _ _ _ _, Blk.new2' _ _ _ _, by (try unfold Kept); repeat (first | assumption | exact Below.refl _ _ | exact below_undrew (Below.refl _ _) | exact Below.mono (by assumption) (by first | (simp; done) | (simp; omega) | omega) | refine below_setRow ?_ (by first | (simp; done) | (simp; omega) | omega) _ | refine Below.setCell ?_ (by first | (simp; done) | (simp; omega) | omega) _ | refine Below.alloc ?_ (by first | (simp; done) | (simp; omega) | omega) _ | refine below_drewN ?_ _ | refine Below.drew ?_ | refine below_undrew ?_ | refine below_step ?_ (by assumption))⟩ ?_
      rintro w0 ⟨hK, hN, hb⟩
      go_wp2_with (first | refine wpList_load_blk rfl 27 agg16 _ rfl rfl hK (fA_size _ _) ?_ | refine wpList_load_blk rfl 30 agg12 _ rfl rfl hN (fA_size _ _) ?_)
      refine (stream_any key nonce a len cap l _ (hl.below hb) HL.out h3).mono ?_
      rintro e w1 ⟨a1, c1, rfl, hx, hb1⟩
      have hb01 := below_step hb hb1
      replace hK := hK.old hb1
      replace hN := hN.old hb1
      clear hb hb1
      go_wp2_with (first | refine wpList_load_blk rfl 27 agg16 _ rfl rfl hK (fA_size _ _) ?_ | refine wpList_load_blk rfl 30 agg12 _ rfl rfl hN (fA_size _ _) ?_)
      refine (rstream_any key nonce a len cap l _ (hl.below hb01) HL.out h3).mono ?_
      rintro e w2 ⟨a2, c2, rfl, hy, hb2⟩
      have hb02 := below_step hb01 hb2
      have s1 := string_of w2 a1 len c1 (stm key nonce l) (hx.row.below hb2) (by rw [stm_length]; exact HL.out) w2 (Old.refl _)
      have s2 := string_of w2 a2 len c2 (stm key nonce l) hy.row (by rw [stm_length]; exact HL.out) w2 (Old.refl _)
      clear hb01 hb2 hK hN hx hy
      go_wp2_with fail
      refine (aes_wakes _).mono ?_
      rintro e w3 ⟨rfl, hb3⟩
      go_wp2_with fail
      go_ret
      exact ⟨rfl, below_step hb02 hb3⟩
end Go.Proofs.Ytjkdgaehnachdaa
