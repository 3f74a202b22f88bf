/- The walk of SumsBurst. -/
import Derived.Test.YtelhpnpngoaelaaSumsLaws
import Derived.Test.YtelhpnpngoaelaaBurst
namespace Go.Proofs.Ytelhpnpngoaelaa
open Go.RowKit

attribute [local go_sem] bits_xor_u32 bits_and_u32 bits_or_u32 ofInt_U32 shr_any

set_option maxHeartbeats 400000 in
theorem sumsBurst_out (a : Option Addr) (len cap : Nat) (x at_ : Int) (w : World) (h : len < 5 ∨ 20000 < len) :
    Calls Try.prog 5 #[.slice a len cap, .int .u32 x, .int .i64 at_] w fun e w' => e = .returned (.bool true) ∧ Below w.heap.size w w' := by
  by_cases h5 : len < 5
  · have t1 : decide ((len : Int) < 5) = true := by simp; omega
    clear h
    go_enter Try.func5, Try.ntmps5
    go_wp2_with (go_at_call 6; refine (wakes_any _).mono ?_; rintro e w1 ⟨rfl, hb⟩)
    go_ret
    exact ⟨rfl, by assumption⟩
  · have t1 : decide ((len : Int) < 5) = false := by simp; omega
    have t2 : decide ((20000 : Int) < (len : Int)) = true := by simp; omega
    clear h
    go_enter Try.func5, Try.ntmps5
    go_wp2_with (go_at_call 6; refine (wakes_any _).mono ?_; rintro e w1 ⟨rfl, hb⟩)
    go_ret
    exact ⟨rfl, by assumption⟩

theorem at_form (x P : Int) (h0 : 0 < P) (h1 : P ≤ 1000000) : ∃ p : Nat, (wrap64 (x.tmod P + P)).tmod P = (p : Int) ∧ (p : Int) < P := by
  have hlo : -P < x.tmod P := Int.lt_tmod_of_pos x h0
  have hhi : x.tmod P < P := Int.tmod_lt_of_pos x h0
  have e : wrap64 (x.tmod P + P) = x.tmod P + P := IntWalk.wrap64_in _ ⟨by omega, by omega⟩
  rw [e, Int.tmod_eq_emod_of_nonneg (by omega)]
  have h2 := Int.emod_nonneg (x.tmod P + P) (show P ≠ 0 by omega)
  have h3 := Int.emod_lt_of_pos (x.tmod P + P) h0
  exact ⟨((x.tmod P + P) % P).toNat, by omega, by omega⟩

theorem flip_byte (y : UInt8) (m : Nat) : bits .xor .u8 (U8 y) ((2 : Int) ^ m % 256) = U8 (y ^^^ UInt8.ofNat (2 ^ m)) := by
  rw [bits_xor_u8, ofInt_U8]
  have e : BitVec.ofInt 8 ((2 : Int) ^ m % 256) = (UInt8.ofNat (2 ^ m)).toBitVec := by
    apply BitVec.eq_of_toNat_eq
    have h1 : ((2 : Int) ^ m % 256) = ((2 ^ m % 256 : Nat) : Int) := by
      rw [Int.natCast_emod, Int.natCast_pow]; rfl
    rw [h1]
    have h2 : ∀ N : Nat, (BitVec.ofInt 8 ((N % 256 : Nat) : Int)).toNat = N % 256 := fun N => by
      simp only [BitVec.toNat_ofInt]; omega
    exact h2 (2 ^ m)
  rw [e]; rfl

def BurstRel (w : World) (l : List UInt8) (X : BitVec 32) (p g len c : Nat) (f : Nat) (i : Value) (wr : World) : Prop :=
  ∃ j : Nat, j + f = 32 ∧ i = .int .i64 (j : Int) ∧ Own wr w.heap.size 5 1 (some ⟨g, 0, none⟩) len c ((turned l (X.toNat % 2 ^ j * 2 ^ p)).map bv) ∧ Below w.heap.size w wr

theorem bit_yes (X : BitVec 32) (j : Nat) (h : X.toNat.testBit j = true) : (X >>> j) &&& 1#32 = 1#32 := by
  apply BitVec.eq_of_getLsbD_eq
  intro i hi
  rw [BitVec.getLsbD_and, BitVec.getLsbD_ushiftRight, BitVec.getLsbD_one]
  by_cases h0 : i = 0
  · subst h0; simp [BitVec.getLsbD, h]
  · simp [h0]
theorem bit_no (X : BitVec 32) (j : Nat) (h : X.toNat.testBit j = false) : ¬ (X >>> j) &&& 1#32 = 1#32 := by
  intro e
  have := congrArg (fun x => x.getLsbD 0) e
  simp [BitVec.getLsbD] at this
  rw [h] at this; cases this
theorem odd_ne (x : BitVec 32) : x ||| 1#32 ≠ 0#32 := by
  intro e
  have := congrArg (fun x => x.getLsbD 0) e
  simp at this

set_option maxHeartbeats 1000000 in
theorem sumsBurst_any (a : Option Addr) (len cap : Nat) (l : List UInt8) (x at_ : Int) (w : World) (hl : BytesAt w a l) (hlen : l.length = len) (h5 : ¬ len < 5) (h2 : ¬ 20000 < len) :
    Calls Try.prog 5 #[.slice a len cap, .int .u32 x, .int .i64 at_] w fun e w' => e = .returned (.bool true) ∧ Below w.heap.size w w' := by
  have t1 : decide ((len : Int) < 5) = false := by simp; omega
  have t2 : decide ((20000 : Int) < (len : Int)) = false := by simp; omega
  have HL := Lib.hid hlen
  clear hlen
  go_enter Try.func5, Try.ntmps5
  obtain ⟨p, hp, hlt⟩ := at_form at_ (8 * (len : Int) - 32) (by omega) (by omega)
  have HP := Lib.hid hp
  clear hp
  go_wp2_with (at_builtin; refine wpList_append_row rfl _ _ 22 rfl bytesT rfl (Own.nil _ w.heap.size _ _) rfl hl (by rw [List.length_map, HL.out, Nat.mul_one]) (bv_one _) (by unfold maxLen; omega) (by omega) (Nat.le_refl _) ?_)
  intro a' c' w1 hown hg
  have hb1 : Below w.heap.size w w1 := (Below.refl _ _).grown hg (Nat.le_refl _) (fun k hk => by cases hk)
  obtain ⟨g, cur, rfl, hgB, -⟩ := hown.blk (by omega)
  have hl1 := hl.below hb1
  go_wp2_with fail
  rw [HP.out]
  have hodd := odd_ne (BitVec.ofInt 32 x)
  generalize hX : BitVec.ofInt 32 x ||| 1#32 = X at *
  have HO := Lib.hid hodd
  clear hX hodd
  go_loopg [9] 32 (BurstRel w l X p g len c')
  case atStart =>
    refine ⟨0, by omega, rfl, ?_, hb1⟩
    rw [show X.toNat % 2 ^ 0 * 2 ^ p = 0 by rw [Nat.pow_zero, Nat.mod_one, Nat.zero_mul], turned_none]
    exact hown
  case round =>
    clear hown hg
    obtain ⟨j, hj, rfl, hown, hb⟩ := hrel
    have HJ := Lib.hid hj
    by_cases hj32 : j < 32
    · clear hj
      by_cases hbit : X.toNat.testBit j = true
      · have hq := low_yes (bit_yes X j hbit)
        have HB := Lib.hid hbit
        clear hbit
        have HN := Lib.hid (show (turned l (X.toNat % 2 ^ j * 2 ^ p)).length = len by rw [turned_length, HL.out])
        have hk : (p + j) / 8 < len := by omega
        have hc := hown.cell ((p + j) / 8) (by rw [List.length_map, HN.out]; exact hk)
        have hf := hown.free (by omega) ((p + j) / 8)
        rw [List.getElem_map] at hc
        generalize hy : (turned l (X.toNat % 2 ^ j * 2 ^ p))[(p + j) / 8]'(by rw [HN.out]; exact hk) = y at hc
        have HY := Lib.hid hy
        have hk0 : (0 : Int) ≤ ((p : Int) + (j : Int)) / 8 := by omega
        have hk1 : ((p : Int) + (j : Int)) / 8 < (len : Int) := by omega
        clear hy
        unfold bv at hc
        go_wp2_with fail
        go_region
        go_wp2_with fail
        go_roundg (gk - 1)
        case measure => have hj := HJ.out; omega
        case rel =>
          have hj := HJ.out
          refine ⟨j + 1, by omega, by go_num, ?_, (hb.setCell hgB _).drew⟩
          rw [low_at, if_pos HB.out, ← turned_flip _ _ _ (by rw [HL.out]; exact hk), List.map_set, HY.out]
          rw [flip_byte]
          exact hown.set ((p + j) / 8) hk _
      · have hq := low_no (bit_no X j (by simpa using hbit))
        have HB := Lib.hid hbit
        clear hbit
        go_wp2_with fail
        go_roundg (gk - 1)
        case measure => have hj := HJ.out; omega
        case rel =>
          have hj := HJ.out
          refine ⟨j + 1, by omega, by go_num, ?_, hb⟩
          rw [low_at, if_neg HB.out, Nat.xor_zero]
          exact hown
    · have hend : j = 32 := by omega
      clear hj
      have HE := Lib.hid hend
      clear hend
      go_wp2_with fail
      refine (sum_any _ _ _ (turned l (X.toNat % 2 ^ j * 2 ^ p)) _ hown.row (by rw [turned_length, HL.out]) (by unfold maxLen; omega)).mono ?_
      rintro e w2 ⟨rfl, hb2⟩
      have hbw2 := hb.trans (hb2.mono hb.size)
      go_wp2_with fail
      refine (sum_any _ _ _ l _ (hl.below hbw2) HL.out (by unfold maxLen; omega)).mono ?_
      rintro e w3 ⟨rfl, hb3⟩
      have hne : more 0#32 (turned l (X.toNat % 2 ^ j * 2 ^ p)) ≠ more 0#32 l := by
        rw [HE.out, Nat.mod_eq_of_lt X.isLt]
        exact turned_more l X p HO.out (by rw [HL.out]; omega)
      have ht := ne_yes hne
      clear hne
      go_wp2_with fail
      refine (wakes_any _).mono ?_
      rintro e w4 ⟨rfl, hb4⟩
      go_wp2_with fail
      go_ret
      exact ⟨rfl, below_step (below_step hbw2 hb3) hb4⟩

end Go.Proofs.Ytelhpnpngoaelaa
