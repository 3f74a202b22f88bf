/- The walks through the reference of package sums. -/
import Derived.Test.YtelhpnpngoaelaaSums
namespace Go.Proofs.Ytelhpnpngoaelaa
open Go.RowKit

attribute [local go_sem] bits_xor_u32 bits_and_u32 bits_or_u32 ofInt_U32 ofInt32_U8 shr1 neg32 not_u32

theorem stp_odd (r : BitVec 32) (h : r &&& 1#32 = 1#32) : stp r = (r >>> 1) ^^^ 0xedb88320#32 := by
  rw [stp, h]; rfl
theorem stp_even (r : BitVec 32) (h : ¬ r &&& 1#32 = 1#32) : stp r = r >>> 1 := by
  have h0 : r &&& 1#32 = 0#32 := by
    have h1 : (r &&& 1#32).toNat ≠ 1 := fun e => h (BitVec.eq_of_toNat_eq (by rw [e]; rfl))
    have h2 : (r &&& 1#32).toNat = r.toNat % 2 := by
      rw [BitVec.toNat_and]; exact Nat.and_two_pow_sub_one_eq_mod _ 1
    apply BitVec.eq_of_toNat_eq
    simp only [BitVec.toNat_ofNat]; omega
  rw [stp, h0]; simp
theorem low_yes {r : BitVec 32} (h : r &&& 1#32 = 1#32) : (U32 (r &&& 1#32) == 1) = true := by rw [h]; rfl
theorem low_no {r : BitVec 32} (h : ¬ r &&& 1#32 = 1#32) : (U32 (r &&& 1#32) == 1) = false := by
  have e : (1 : Int) = U32 1#32 := rfl
  rw [e, U32_beq]; simp [h]

set_option maxHeartbeats 1000000 in
theorem ref_more_any (s : BitVec 32) (a : Option Addr) (len cap : Nat) (l : List UInt8) (w : World) (hl : BytesAt w a l) (hlen : l.length = len) (hm : len ≤ maxLen) :
    Calls Try.prog 19 #[.int .u32 (U32 s), .slice a len cap] w fun e w' => e = .returned (.int .u32 (U32 (more s l))) ∧ w = w' := by
  subst hlen
  unfold maxLen at hm
  go_enter Try.func19, Try.ntmps19
  go_wp2_with fail
  go_loop [6, 5] (fun i r => ∃ k : Nat, k ≤ l.length ∧ i = .int .i64 k ∧ r = .int .u32 (U32 (feeds (~~~ s) (l.take k)))) (fun i _ => l.length - (intOf i).toNat)
  case atStart => exact ⟨0, by omega, rfl, rfl⟩
  case round =>
    obtain ⟨k, hk, rfl, rfl⟩ := hrel
    by_cases hlt : k < l.length
    · obtain ⟨b, o, rfl, hc⟩ := hl.at (by omega)
      have hck := hc k hlt
      clear hc
      have HF := Lib.hid (byte_take l k hlt (~~~ s))
      have h0 := U8_lo l[k]
      have h1 := U8_hi l[k]
      go_wp2_with fail
      go_loop [7, 5] (fun i r => ∃ j : Nat, j ≤ 8 ∧ i = .int .i64 j ∧ r = .int .u32 (U32 (stps j (feeds (~~~ s) (l.take k) ^^^ l[k].toBitVec.setWidth 32)))) (fun i _ => 8 - (intOf i).toNat)
      case atStart => exact ⟨0, by omega, rfl, rfl⟩
      case round =>
        obtain ⟨j, hj, rfl, rfl⟩ := hrel
        by_cases hlt2 : j < 8
        · generalize hq : stps j (feeds (~~~ s) (l.take k) ^^^ l[k].toBitVec.setWidth 32) = q at *
          have HQ := Lib.hid hq
          clear hq
          by_cases hodd : q &&& 1#32 = 1#32
          · have ht := low_yes hodd
            have HS := Lib.hid (stp_odd q hodd)
            clear hodd
            go_wp2_with fail
            go_round
            case rel => exact ⟨j + 1, by omega, by go_num, by rw [stps, HQ.out, HS.out]⟩
            case measure => simp [intOf]; omega
          · have ht := low_no hodd
            have HS := Lib.hid (stp_even q hodd)
            clear hodd
            go_wp2_with fail
            go_round
            case rel => exact ⟨j + 1, by omega, by go_num, by rw [stps, HQ.out, HS.out, half32]⟩
            case measure => simp [intOf]; omega
        · rw [show j = 8 by omega]
          go_wp2_with fail
          go_round
          case rel => exact ⟨k + 1, by omega, by go_num, by rw [← HF.out]; rfl⟩
          case measure => simp [intOf]; omega
    · go_wp2_with fail
      go_ret
      obtain rfl : k = l.length := by omega
      exact ⟨by simp [more], rfl⟩

theorem ref_more_zero (a : Option Addr) (len cap : Nat) (l : List UInt8) (w : World) (hl : BytesAt w a l) (hlen : l.length = len) (hm : len ≤ maxLen) :
    Calls Try.prog 19 #[.int .u32 0, .slice a len cap] w fun e w' => e = .returned (.int .u32 (U32 (more 0#32 l))) ∧ w = w' :=
  ref_more_any 0#32 a len cap l w hl hlen hm

set_option maxHeartbeats 400000 in
theorem ref_sum_any (a : Option Addr) (len cap : Nat) (l : List UInt8) (w : World) (hl : BytesAt w a l) (hlen : l.length = len) (hm : len ≤ maxLen) :
    Calls Try.prog 14 #[.slice a len cap] w fun e w' => e = .returned (.int .u32 (U32 (more 0#32 l))) ∧ Below w.heap.size w w' := by
  have HL := Lib.hid hlen
  clear hlen
  go_enter Try.func14, Try.ntmps14
  go_wp2_with fail
  refine (ref_more_zero _ _ _ _ _ hl HL.out hm).mono ?_
  rintro e w1 ⟨rfl, rfl⟩
  go_wp2_with fail
  go_ret
  exact ⟨rfl, Below.refl _ _⟩

set_option maxHeartbeats 400000 in
theorem ref_put_any (a : Option Addr) (len cap : Nat) (l : List UInt8) (w : World) (hl : BytesAt w a l) (hlen : l.length = len) (hm : len ≤ 1099511627776) :
    Calls Try.prog 10 #[.slice a len cap] w fun e w' => ∃ a' c', e = .returned (.slice a' (4 + len) c') ∧ Own w' w.heap.size 5 1 a' (4 + len) c' ((putOf l).map bv) ∧ Below w.heap.size w w' := by
  have HL := Lib.hid hlen
  clear hlen
  go_enter Try.func10, Try.ntmps10
  go_wp2_with fail
  refine (ref_sum_any _ _ _ _ _ hl HL.out (by unfold maxLen; omega)).mono ?_
  rintro e w1 ⟨rfl, hb⟩
  have hown := own_le4 (w := w1) (B := w.heap.size) (more 0#32 l) hb.size
  go_wp2_with (at_builtin; refine wpList_append_row rfl (.tmp 19) (.tmp 20) 22 rfl bytesT rfl hown rfl ((hl.below hb).alloc _) (by rw [List.length_map, HL.out, Nat.mul_one]) (bv_one _) (by unfold maxLen; omega) (by omega) (by simp; exact Nat.le_succ_of_le hb.size) ?_)
  intro a' c' w2 hown' hg
  go_wp2_with fail
  go_ret
  exact ⟨a', c', rfl, by rw [putOf, List.map_append]; exact hown', (hb.alloc hb.size _).grown hg (by simp; exact Nat.le_succ_of_le hb.size) (ownBlock_ge hown)⟩

set_option maxHeartbeats 400000 in
theorem ref_take_short (a : Option Addr) (len cap : Nat) (w : World) (h : len < 4) :
    Calls Try.prog 8 #[.slice a len cap] w fun e w' => e = .returned (.tuple #[.slice none 0 0, .bool false]) ∧ w = w' := by
  go_enter Try.func8, Try.ntmps8
  go_wp2_with fail
  go_ret2
  exact ⟨rfl, rfl⟩

set_option maxHeartbeats 400000 in
theorem ref_take_any (b o len cap : Nat) (c0 c1 c2 c3 : UInt8) (m : List UInt8) (w : World) (hl : BytesAt w (some ⟨b, o, none⟩) (c0 :: c1 :: c2 :: c3 :: m)) (hlen : m.length + 4 = len) (hcap : len ≤ cap) (hm : len ≤ 1099511627776) :
    Calls Try.prog 8 #[.slice (some ⟨b, o, none⟩) len cap] w (TakePost w (more 0#32 m == rd4 c0 c1 c2 c3) m) := by
  have g0 : w.cell? ⟨b, o, none⟩ = some (.int .u8 (U8 c0)) := by obtain ⟨_, _, e, h⟩ := hl 0 (by simp); cases e; exact h
  have g1 : w.cell? ⟨b, o + 1, none⟩ = some (.int .u8 (U8 c1)) := by obtain ⟨_, _, e, h⟩ := hl 1 (by simp); cases e; exact h
  have g2 : w.cell? ⟨b, o + 2, none⟩ = some (.int .u8 (U8 c2)) := by obtain ⟨_, _, e, h⟩ := hl 2 (by simp); cases e; exact h
  have g3 : w.cell? ⟨b, o + 3, none⟩ = some (.int .u8 (U8 c3)) := by obtain ⟨_, _, e, h⟩ := hl 3 (by simp); cases e; exact h
  have hd : BytesAt w (if cap = 4 then some ⟨b, o, none⟩ else some ⟨b, o + 4, none⟩) m := by
    split
    · have : m = [] := List.eq_nil_of_length_eq_zero (by omega)
      subst this; exact RowAt.nil _ _
    · exact RowAt.drop 4 hl
  have h4 : ¬ (len : Int) < 4 := by omega
  have k0 : (0 : Int) < len := by omega
  have k1 : (1 : Int) < len := by omega
  have k2 : (2 : Int) < len := by omega
  have k3 : (3 : Int) < len := by omega
  have HL := Lib.hid (show m.length = len - 4 by omega)
  clear hlen
  by_cases hc4 : cap = 4
  all_goals
    first | rw [if_pos hc4] at hd | rw [if_neg hc4] at hd
    by_cases hs : more 0#32 m = rd4 c0 c1 c2 c3
    · have hne := ne_no hs
      have HS := Lib.hid hs
      clear hs
      go_enter Try.func8, Try.ntmps8
      go_wp2_with fail
      go_quiet (fail)
      go_wp2_with fail
      rw [rd4_of]
      refine (ref_sum_any _ _ _ _ _ (by exact hd) HL.out (by unfold maxLen; omega)).mono ?_
      rintro e w1 ⟨rfl, hb⟩
      have hb0 := (below_drewN (Below.refl w.heap.size w) nq).trans hb
      go_wp2_with (at_builtin; refine wpList_append_row rfl _ _ 22 rfl bytesT rfl (Own.nil _ w.heap.size _ _) rfl (hd.below hb0) (by rw [List.length_map, HL.out, Nat.mul_one]) (bv_one _) (by unfold maxLen; omega) (by omega) hb0.size ?_)
      intro a' c' w2 hown' hg
      go_wp2_with fail
      go_ret2
      exact ⟨fun h => by simp [HS.out] at h, fun _ => ⟨a', c', by rw [HL.out]; simp, by rw [HL.out]; simpa using hown'⟩, hb0.grown hg hb0.size (fun k hk => by cases hk)⟩
    · have hne := ne_yes hs
      have HS := Lib.hid hs
      clear hs
      go_enter Try.func8, Try.ntmps8
      go_wp2_with fail
      go_quiet (fail)
      go_wp2_with fail
      rw [rd4_of]
      refine (ref_sum_any _ _ _ _ _ (by exact hd) HL.out (by unfold maxLen; omega)).mono ?_
      rintro e w1 ⟨rfl, hb⟩
      have hb0 := (below_drewN (Below.refl w.heap.size w) nq).trans hb
      go_wp2_with fail
      go_ret2
      exact ⟨fun _ => rfl, fun h => (HS.out (by simpa using h)).elim, hb0⟩

end Go.Proofs.Ytelhpnpngoaelaa
