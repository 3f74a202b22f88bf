/- The walks through package sums and its reference. -/
import Derived.Test.YtelhpnpngoaelaaRows
import Derived.Test.YtelhpnpngoaelaaCrc
namespace Go.Proofs.Ytelhpnpngoaelaa
open Go.RowKit

theorem half32 (r : BitVec 32) : U32 r / (2 : Int) = U32 (r >>> 1) := U32_shr r 1
theorem shr1 (r : BitVec 32) : BitVec.ofInt 32 (U32 r / 2) = r >>> 1 := by rw [show (2 : Int) = ((2 ^ 1 : Nat) : Int) from rfl, U32_shr, ofInt_U32]
theorem neg32 (r : BitVec 32) : BitVec.ofInt 32 (-U32 r % 4294967296) = -r := by rw [U32_neg, ofInt_U32]

attribute [local go_sem] bits_xor_u32 bits_and_u32 bits_or_u32 ofInt_U32 ofInt32_U8 shr1 neg32 not_u32

set_option maxHeartbeats 400000 in
theorem step_any (r : BitVec 32) (w : World) :
    Calls Try.prog 16 #[.int .u32 (U32 r)] w fun e w' => e = .returned (.int .u32 (U32 (stp r))) ∧ w = w' := by
  go_enter Try.func16, Try.ntmps16
  go_wp2
  go_ret
  exact ⟨rfl, rfl⟩

set_option maxHeartbeats 400000 in
theorem feed_any (r : BitVec 32) (c : UInt8) (b : Nat) (w : World)
   (hc : w.cell? ⟨b, 0, none⟩ = some (.int .u32 (U32 r))) (hf : w.frozen? ⟨b, 0, none⟩ = false) :
    Calls Try.prog 15 #[.int .u8 (U8 c), .pointer (some ⟨b, 0, none⟩)] w fun e w' => e = .returned (.tuple #[]) ∧ w.setCell ⟨b, 0, none⟩ (.int .u32 (U32 (feed r c))) = w' := by
  have h0 := U8_lo c
  have h1 := U8_hi c
  go_enter Try.func15, Try.ntmps15
  go_wp2_with fail
  go_loopw [7] (fun i wr => ∃ k : Nat, k ≤ 8 ∧ i = .int .i64 k ∧ w.setCell ⟨b, 0, none⟩ (.int .u32 (U32 (stps k (r ^^^ c.toBitVec.setWidth 32)))) = wr) (fun i _ => 8 - (intOf i).toNat)
  case atStart => exact ⟨0, by omega, rfl, rfl⟩
  case round =>
    obtain ⟨k, hk, rfl, rfl⟩ := hrel
    by_cases hlt : k < 8
    · go_wp2_with (go_at_call 16; refine (step_any _ _).mono ?_; rintro e w' ⟨rfl, rfl⟩)
      go_roundw
      case rel => exact ⟨k + 1, by omega, by go_num, (setCell_twice _ _ _ _).symm⟩
      case measure => simp [intOf]; omega
    · go_wp2
      go_end0
      obtain rfl : k = 8 := by omega
      exact ⟨rfl, rfl⟩


theorem byte_take (l : List UInt8) (k : Nat) (h : k < l.length) (r : BitVec 32) : feed (feeds r (l.take k)) l[k] = feeds r (l.take (k + 1)) := (feeds_take r l k h).symm

set_option maxHeartbeats 400000 in
theorem more_any (s : BitVec 32) (a : Option Addr) (len cap : Nat) (l : List UInt8) (w : World) (hl : BytesAt w a l) (hlen : l.length = len) (hm : len ≤ maxLen) :
    Calls Try.prog 11 #[.int .u32 (U32 s), .slice a len cap] w fun e w' => e = .returned (.int .u32 (U32 (more s l))) ∧ Below w.heap.size w w' := by
  subst hlen
  unfold maxLen at hm
  have hmf : ∀ (fn : Fn) (first cap : Array Value) (w : World), (Instr.makeFunc fn first cap).run Try.prog w = .ok (.func fn first cap) w := fun _ _ _ _ => rfl
  go_enter Try.func11, Try.ntmps11
  go_wp2_with fail
  go_loopw [14, 8] (fun i _ wr => ∃ k : Nat, k ≤ l.length ∧ i = .int .i64 k ∧ w.alloc (.cells #[.int .u32 (U32 (feeds (~~~ s) (l.take k)))] 29) = wr) (fun i _ _ => l.length - (intOf i).toNat)
  case atStart => exact ⟨0, by omega, rfl, rfl⟩
  case round =>
    obtain ⟨k, hk, rfl, rfl⟩ := hrel
    by_cases hlt : k < l.length
    · obtain ⟨b, o, rfl, hc⟩ := hl.at (by omega)
      have hb : b < w.heap.size := World.block_lt_of_cell? w _ (hc k hlt)
      have hck : ∀ v, (w.alloc (.cells #[v] 29)).cell? ⟨b, o + k, none⟩ = some (.int .u8 (U8 l[k])) := fun v => by
        rw [World.cell?_alloc_past _ _ _ (by simpa using hb)]; exact hc k hlt
      have hr : ∀ v, (w.alloc (.cells #[v] 29)).cell? ⟨w.heap.size, 0, none⟩ = some v := fun v => by
        rw [World.cell?_alloc_at _ _ _ _ rfl]; rfl
      have hf : ∀ v, (w.alloc (.cells #[v] 29)).frozen? ⟨w.heap.size, 0, none⟩ = false := fun v => World.frozen?_alloc_at _ _ _ _ rfl
      clear hc
      have hfd := byte_take l k hlt (~~~ s)
      have HF := Lib.hid hfd
      clear hfd
      go_wp2_with (go_at_call 15; refine (feed_any _ _ _ _ (hr _) (hf _)).mono ?_; rintro e w' ⟨rfl, rfl⟩)
      go_roundw
      case rel => exact ⟨k + 1, by omega, by go_num, by rw [← HF.out]⟩
      case measure => simp [intOf]; omega
    · have hr : ∀ v, (w.alloc (.cells #[v] 29)).cell? ⟨w.heap.size, 0, none⟩ = some v := fun v => by
        rw [World.cell?_alloc_at _ _ _ _ rfl]; rfl
      go_wp2
      go_ret
      obtain rfl : k = l.length := by omega
      exact ⟨by simp [more], (Below.refl _ _).alloc (Nat.le_refl _) _⟩

/-! ### The matrix -/
theorem matInfo : (Try.prog.info? 39).map (·.size) = some 32 := by kernel_rfl
theorem u32Info : (Try.prog.info? 29).map (·.size) = some 1 := by kernel_rfl
theorem shr_any (r : BitVec 32) (k : Nat) : BitVec.ofInt 32 (U32 r / (2 : Int) ^ k) = r >>> k := by rw [U32_shr_pow, ofInt_U32]

set_option maxHeartbeats 400000 in
theorem of_any (r : BitVec 32) (l : List (BitVec 32)) (w : World) (hs : l.length = 32) :
    Calls Try.prog 18 #[.agg (u32s l), .int .u32 (U32 r)] w fun e w' => e = .returned (.int .u32 (U32 (matOf l r))) ∧ Below w.heap.size w w' := by
  have hi : (Try.prog.info? 39).map (·.size) = some (u32s l).size := by rw [matInfo, u32s_size, hs]
  have HI := Lib.hid hi
  have HS := Lib.hid hs
  clear hi hs
  go_enter Try.func18, Try.ntmps18
  go_wp2_with (refine wpList_load_row rfl 39 (.tmp 2) rfl _ rfl 39 (u32s l) (0, 0) _ (heap_alloc_new _ _) Try.underlying39 rfl HI.out ?_)
  go_loop [8, 4] (fun i out => ∃ k : Nat, k ≤ 32 ∧ i = .int .i64 k ∧ out = .int .u32 (U32 (ofTo l r k))) (fun i _ => 32 - (intOf i).toNat)
  case atStart => exact ⟨0, by omega, rfl, rfl⟩
  case round =>
    obtain ⟨k, hk, rfl, rfl⟩ := hrel
    by_cases hlt : k < 32
    · have hix : ∀ W : World, (Instr.index 39 (.agg (u32s l)) (.int .i64 (k : Int))).run Try.prog W = .ok (.int .u32 (U32 (l.getD k 0#32))) W := fun W =>
        run_index_arr Try.underlying39 Try.underlying29 rfl u32Info W (u32s l) k _ (u32s_getD l k (by rw [HS.out]; exact hlt)) hlt
      go_wp2_with fail
      go_round
      case rel => exact ⟨k + 1, by omega, by go_num, by rw [shr_any]; simp [ofTo]⟩
      case measure => simp [intOf]; omega
    · go_wp2
      go_ret
      obtain rfl : k = 32 := by omega
      exact ⟨rfl, (Below.refl _ _).alloc (Nat.le_refl _) _⟩


theorem mixed_u32s_set (a b : List (BitVec 32)) (k : Nat) (h : a.length = b.length) (hk : k < a.length) : (u32s (mixed a b k)).setIfInBounds k (.int .u32 (U32 a[k])) = u32s (mixed a b (k + 1)) := by
  rw [← mixed_set a b k h hk]
  simp [u32s, List.setIfInBounds_toArray, List.map_set]

def noughts : List (BitVec 32) := List.replicate 32 0#32

set_option maxHeartbeats 400000 in
theorem square_any (l : List (BitVec 32)) (w : World) (hs : l.length = 32) :
    Calls Try.prog 17 #[.agg (u32s l)] w fun e w' => e = .returned (.agg (u32s (squareOf l))) ∧ Below w.heap.size w w' := by
  have hi : ∀ x : List (BitVec 32), x.length = 32 → (Try.prog.info? 39).map (·.size) = some (u32s x).size := fun x hx => by rw [matInfo, u32s_size, hx]
  have HI := Lib.hid hi
  have HS := Lib.hid hs
  have HQ := Lib.hid ((squareOf_length l).trans hs)
  clear hi hs
  go_enter Try.func17, Try.ntmps17
  go_wp2_with (refine wpList_load_row rfl 39 (.tmp 1) rfl _ rfl 39 (u32s l) (0, 0) _ (heap_alloc2_old _ _ _) Try.underlying39 rfl (HI.out l HS.out) ?_)
  go_loopw [6, 3, 4] (fun i _ _ wr => ∃ k : Nat, k ≤ 32 ∧ i = .int .i64 k ∧ Blk wr w.heap.size (u32s l) 39 ∧ Blk wr (w.heap.size + 1) (u32s (mixed (squareOf l) noughts k)) 39 ∧ Below w.heap.size w wr) (fun i _ _ _ => 32 - (intOf i).toNat)
  case atStart => exact ⟨0, by omega, rfl, Blk.new2 _ _ _ _, Blk.new2' _ _ _ _, ((Below.refl _ _).alloc (Nat.le_refl _) _).alloc (by simp) _⟩
  case round =>
    obtain ⟨k, hk, rfl, hB1, hB2, hbel⟩ := hrel
    by_cases hlt : k < 32
    · have hix : ∀ W : World, (Instr.index 39 (.agg (u32s l)) (.int .i64 (k : Int))).run Try.prog W = .ok (.int .u32 (U32 (l.getD k 0#32))) W := fun W =>
        run_index_arr Try.underlying39 Try.underlying29 rfl u32Info W (u32s l) k _ (u32s_getD l k (by rw [HS.out]; exact hlt)) hlt
      go_wp2_with (refine wpList_load_row rfl 39 (.tmp 1) rfl _ rfl 39 (u32s l) (0, 0) _ hB1 Try.underlying39 rfl (HI.out l HS.out) ?_)
      refine (of_any _ _ _ HS.out).mono ?_
      rintro e w1 ⟨rfl, hb1⟩
      have hB3 := hB1.old hb1
      have hB4 := hB2.old hb1
      have hbel1 := hbel.trans (hb1.mono hbel.size)
      have hc := hB4.cell (u32s_at (mixed (squareOf l) noughts k) k (by rw [mixed_length _ _ _ (by rw [HQ.out]; rfl), HQ.out]; exact hlt))
      have hf := hB4.free k
      go_wp2_with fail
      go_roundw
      case rel =>
        refine ⟨k + 1, by omega, by go_num, hB3.other _ _ (by simp), ?_, hbel1.setCell (by simp) _⟩
        rw [← mixed_u32s_set (squareOf l) noughts k (by rw [HQ.out]; rfl) (by rw [HQ.out]; exact hlt), squareOf_at l k (by rw [HS.out]; exact hlt)]
        exact hB4.set k _
      case measure => simp [intOf]; omega
    · obtain rfl : k = 32 := by omega
      rw [mixed_end _ _ _ (by rw [HQ.out]; rfl) HQ.out] at hB2
      go_wp2_with (first | refine wpList_load_row rfl 39 (.tmp 2) rfl _ rfl 39 (u32s (squareOf l)) (0, 0) _ hB2 Try.underlying39 rfl (HI.out _ HQ.out) ?_ | refine wpList_store_row rfl 39 (.tmp 2) (.tmp 16) rfl _ (u32s (squareOf l)) rfl rfl 39 (u32s (squareOf l)) hB2 (HI.out _ HQ.out) rfl (u32s_one _) ?_)
      rw [hB2.setRow_self]
      go_wp2_with fail
      exact bodyPost_ret (results_cell_row rfl _ _ _ _ _ _ _ rfl hB2 Try.underlying39 rfl (HI.out _ HQ.out)) rfl ⟨rfl, hbel⟩

/-! ### Join -/
set_option maxHeartbeats 400000 in
theorem join_less (a b : BitVec 32) (n : Int) (w : World) (h : n < 1) :
    Calls Try.prog 12 #[.int .u32 (U32 a), .int .u32 (U32 b), .int .i64 n] w fun e w' => e = .returned (.int .u32 (U32 a)) ∧ w = w' := by
  go_enter Try.func12, Try.ntmps12
  go_wp2_with fail
  go_ret
  exact ⟨rfl, rfl⟩

theorem one_shl (k : Nat) : (2 : Int) ^ k % 4294967296 = U32 (1#32 <<< k) := by
  rw [← U32_shl 1#32 k]
  simp [U32]

theorem and1_i64 (j : Nat) : bits .and .i64 (j : Int) 1 = ((j % 2 : Nat) : Int) := by
  have h : (BitVec.ofInt 64 (j : Int) &&& BitVec.ofInt 64 1).toNat = j % 2 := by
    have : (BitVec.ofInt 64 1).toNat = 2 ^ 1 - 1 := by decide
    rw [BitVec.toNat_and, this, Nat.and_two_pow_sub_one_eq_mod]
    simp only [BitVec.toNat_ofInt]; omega
  show IntKind.i64.wrap (((BitVec.ofInt 64 (j : Int) &&& BitVec.ofInt 64 1).toNat : Nat) : Int) = _
  rw [h, IntWalk.i64_in _ (by omega)]
theorem odd_yes (n : Nat) (h : n % 2 = 1) : (bits .and .i64 (n : Int) 1 == 1) = true := by rw [and1_i64, h]; rfl
theorem odd_no (n : Nat) (h : ¬ n % 2 = 1) : (bits .and .i64 (n : Int) 1 == 1) = false := by rw [and1_i64, show n % 2 = 0 by omega]; rfl

def JoinRel (w : World) (a : BitVec 32) (n : Nat) (f : Nat) (x i : Value) (w3 : World) : Prop :=
  ∃ (m : List (BitVec 32)) (c : BitVec 32) (j : Nat), x = .int .u32 (U32 c) ∧ i = .int .i64 (j : Int) ∧ j < 2 ^ f ∧ f ≤ 63 ∧ m.length = 32 ∧ joinGo f m c j = joinGo 63 mat8 a n ∧ Blk w3 w.heap.size (u32s m) 39 ∧ Below w.heap.size w w3

theorem joinGo_zero (f : Nat) (m : List (BitVec 32)) (c : BitVec 32) : joinGo f m c 0 = c := by cases f <;> simp [joinGo]
theorem joinGo_odd (f : Nat) (m : List (BitVec 32)) (c : BitVec 32) (j : Nat) (h0 : j ≠ 0) (h : j % 2 = 1) : joinGo (f + 1) m c j = joinGo f (squareOf m) (matOf m c) (j / 2) := by simp [joinGo, h0, h]
theorem joinGo_even (f : Nat) (m : List (BitVec 32)) (c : BitVec 32) (j : Nat) (h0 : j ≠ 0) (h : ¬ j % 2 = 1) : joinGo (f + 1) m c j = joinGo f (squareOf m) c (j / 2) := by simp [joinGo, h0, h]

set_option maxHeartbeats 1000000 in
theorem join_any (a b : BitVec 32) (n : Nat) (w : World) (h1 : 1 ≤ n) (h2 : n < 9223372036854775808) :
    Calls Try.prog 12 #[.int .u32 (U32 a), .int .u32 (U32 b), .int .i64 (n : Int)] w fun e w' => e = .returned (.int .u32 (U32 (joinOf a b n))) ∧ Below w.heap.size w w' := by
  have hi : ∀ x : List (BitVec 32), x.length = 32 → (Try.prog.info? 39).map (·.size) = some (u32s x).size := fun x hx => by rw [matInfo, u32s_size, hx]
  have HI := Lib.hid hi
  have hd : decide ((n : Int) < 1) = false := by simp; omega
  clear hi
  go_enter Try.func12, Try.ntmps12
  go_wp2_with fail
  go_loopw [12, 8] (fun i _ wr => ∃ k : Nat, k ≤ 32 ∧ i = .int .i64 k ∧ Blk wr w.heap.size (u32s (mixed mat1 noughts k)) 39 ∧ Below w.heap.size w wr) (fun i _ _ => 32 - (intOf i).toNat)
  case atStart => exact ⟨0, by omega, rfl, Blk.new _ _ _, (Below.refl _ _).alloc (Nat.le_refl _) _⟩
  case round =>
    obtain ⟨k, hk, rfl, hB, hbel⟩ := hrel
    by_cases hlt : k < 32
    · go_wp2_with fail
      rw [one_shl]
      refine (step_any _ _).mono ?_
      rintro e w1 ⟨rfl, rfl⟩
      have hc := hB.cell (u32s_at (mixed mat1 noughts k) k (by rw [mixed_length _ _ _ (by rw [mat1_length]; rfl), mat1_length]; exact hlt))
      have hf := hB.free k
      go_wp2_with fail
      go_roundw
      case rel =>
        refine ⟨k + 1, by omega, by go_num, ?_, hbel.setCell (by simp) _⟩
        rw [← mixed_u32s_set mat1 noughts k (by rw [mat1_length]; rfl) (by rw [mat1_length]; exact hlt), mat1_at k hlt]
        exact hB.set k _
      case measure => simp [intOf]; omega
    · rw [show k = 32 by omega, mixed_end _ _ _ (by rw [mat1_length]; rfl) mat1_length] at hB
      go_wp2_with fail
      go_loopw [22] (fun i w2 => ∃ k : Nat, k ≤ 3 ∧ i = .int .i64 k ∧ Blk w2 w.heap.size (u32s (squares k mat1)) 39 ∧ Below w.heap.size w w2) (fun i _ => 3 - (intOf i).toNat)
      case atStart => exact ⟨0, by omega, rfl, hB, hbel⟩
      case round =>
        clear hB hbel
        obtain ⟨k, hk, rfl, hB, hbel⟩ := hrel
        by_cases hlt : k < 3
        · have hl := Lib.hid ((squares_length k mat1).trans mat1_length)
          have hl' := Lib.hid ((squareOf_length _).trans hl.out)
          go_wp2_with (refine wpList_load_row rfl 39 (.tmp 7) rfl _ rfl 39 (u32s (squares k mat1)) (0, 0) _ hB Try.underlying39 rfl (HI.out _ hl.out) ?_)
          refine (square_any _ _ hl.out).mono ?_
          rintro e w1 ⟨rfl, hb1⟩
          have hB1 := hB.old hb1
          have hbel1 := hbel.trans (hb1.mono hbel.size)
          go_wp2_with (refine wpList_store_row rfl 39 (.tmp 7) (.tmp 25) rfl _ (u32s (squareOf (squares k mat1))) rfl rfl 39 (u32s (squares k mat1)) hB1 (HI.out _ hl'.out) (by rw [u32s_size, u32s_size, squareOf_length]) (u32s_one _) ?_)
          go_roundw
          case rel => exact ⟨k + 1, by omega, by go_num, hB1.setRow _, below_setRow hbel1 (Nat.le_refl _) _⟩
          case measure => simp [intOf]; omega
        · rw [show k = 3 by omega] at hB
          go_wp2_with fail
          go_loopg [0, 2] 63 (JoinRel w a n)
          case atStart => exact ⟨mat8, a, n, rfl, rfl, by omega, by omega, by simp [mat8, squareOf_length, mat1_length], rfl, hB, hbel⟩
          case round =>
            clear hB hbel
            obtain ⟨m, c, j, rfl, rfl, hj, hf, hm, hgo, hB, hbel⟩ := hrel
            have HG := Lib.hid hgo
            have HM := Lib.hid hm
            have HM2 := Lib.hid ((squareOf_length m).trans hm)
            have hj63 : j < 9223372036854775808 := Nat.lt_of_lt_of_le hj (Nat.pow_le_pow_right (by omega) hf)
            clear hgo hm
            by_cases h0 : j = 0
            · subst h0
              go_wp2_with fail
              go_ret
              refine ⟨?_, hbel⟩
              rw [joinOf, ← HG.out, joinGo_zero]
              rfl
            · obtain ⟨f, rfl⟩ : ∃ f, gk = f + 1 := ⟨gk - 1, by
                cases gk with
                | zero => omega
                | succ g => omega⟩
              by_cases h1 : j % 2 = 1
              · have hb := odd_yes j h1
                have HGo := Lib.hid ((joinGo_odd f m c j h0 h1).symm.trans HG.out)
                go_wp2_with (refine wpList_load_row rfl 39 (.tmp 7) rfl _ rfl 39 (u32s m) (0, 0) _ hB Try.underlying39 rfl (HI.out _ HM.out) ?_)
                refine (of_any _ _ _ HM.out).mono ?_
                rintro e w1 ⟨rfl, hb1⟩
                have hB1 := hB.old hb1
                have hbel1 := hbel.trans (hb1.mono hbel.size)
                go_wp2_with (refine wpList_load_row rfl 39 (.tmp 7) rfl _ rfl 39 (u32s m) (0, 0) _ hB1 Try.underlying39 rfl (HI.out _ HM.out) ?_)
                refine (square_any _ _ HM.out).mono ?_
                rintro e w2 ⟨rfl, hb2⟩
                have hB2 := hB1.old hb2
                have hbel2 := hbel1.trans (hb2.mono hbel1.size)
                go_wp2_with (refine wpList_store_row rfl 39 (.tmp 7) (.tmp 38) rfl _ (u32s (squareOf m)) rfl rfl 39 (u32s m) hB2 (HI.out _ HM2.out) (by rw [u32s_size, u32s_size, squareOf_length]) (u32s_one _) ?_)
                go_roundg f
                case rel => exact ⟨squareOf m, matOf m c, j / 2, rfl, by go_num, by omega, by omega, HM2.out, HGo.out, hB2.setRow _, below_setRow hbel2 (Nat.le_refl _) _⟩
                case measure => omega
              · have hb := odd_no j h1
                have HGo := Lib.hid ((joinGo_even f m c j h0 h1).symm.trans HG.out)
                go_wp2_with (refine wpList_load_row rfl 39 (.tmp 7) rfl _ rfl 39 (u32s m) (0, 0) _ hB Try.underlying39 rfl (HI.out _ HM.out) ?_)
                refine (square_any _ _ HM.out).mono ?_
                rintro e w2 ⟨rfl, hb2⟩
                have hB2 := hB.old hb2
                have hbel2 := hbel.trans (hb2.mono hbel.size)
                go_wp2_with (refine wpList_store_row rfl 39 (.tmp 7) (.tmp 38) rfl _ (u32s (squareOf m)) rfl rfl 39 (u32s m) hB2 (HI.out _ HM2.out) (by rw [u32s_size, u32s_size, squareOf_length]) (u32s_one _) ?_)
                go_roundg f
                case rel => exact ⟨squareOf m, c, j / 2, rfl, by go_num, by omega, by omega, HM2.out, HGo.out, hB2.setRow _, below_setRow hbel2 (Nat.le_refl _) _⟩
                case measure => omega

/-! ### Sum, Put, Take -/
theorem more_zero (a : Option Addr) (len cap : Nat) (l : List UInt8) (w : World) (hl : BytesAt w a l) (hlen : l.length = len) (hm : len ≤ maxLen) :
    Calls Try.prog 11 #[.int .u32 0, .slice a len cap] w fun e w' => e = .returned (.int .u32 (U32 (more 0#32 l))) ∧ Below w.heap.size w w' :=
  more_any 0#32 a len cap l w hl hlen hm

set_option maxHeartbeats 400000 in
theorem sum_any (a : Option Addr) (len cap : Nat) (l : List UInt8) (w : World) (hl : BytesAt w a l) (hlen : l.length = len) (hm : len ≤ maxLen) :
    Calls Try.prog 13 #[.slice a len cap] w fun e w' => e = .returned (.int .u32 (U32 (more 0#32 l))) ∧ Below w.heap.size w w' := by
  have HL := Lib.hid hlen
  clear hlen
  go_enter Try.func13, Try.ntmps13
  go_wp2_with fail
  refine (more_zero _ _ _ _ _ hl HL.out hm).mono ?_
  rintro e w1 ⟨rfl, hb⟩
  go_wp2_with fail
  go_ret
  exact ⟨rfl, hb⟩

/-- The four bytes of a sum, the lowest first. -/
def le4 (s : BitVec 32) : List UInt8 := [⟨s.setWidth 8⟩, ⟨(s >>> 8).setWidth 8⟩, ⟨(s >>> 16).setWidth 8⟩, ⟨(s >>> 24).setWidth 8⟩]
def putOf (l : List UInt8) : List UInt8 := le4 (more 0#32 l) ++ l

theorem bytesT : RowType Try.prog 22 5 1 1 := RowType.mk (z := .int .u8 0) Try.underlying22 (by kernel_rfl) rfl (by omega)

theorem byte_lo (s : BitVec 32) : U32 s % 256 = U8 ⟨s.setWidth 8⟩ := U32_byte s
theorem byte_8 (s : BitVec 32) : U32 s / (256 : Int) % (256 : Int) = U8 ⟨(s >>> 8).setWidth 8⟩ := by
  have h : U32 s / (256 : Int) = U32 (s >>> 8) := U32_shr s 8
  rw [h]; exact U32_byte _
theorem byte_16 (s : BitVec 32) : U32 s / (65536 : Int) % (256 : Int) = U8 ⟨(s >>> 16).setWidth 8⟩ := by
  have h : U32 s / (65536 : Int) = U32 (s >>> 16) := U32_shr s 16
  rw [h]; exact U32_byte _
theorem byte_24 (s : BitVec 32) : U32 s / (16777216 : Int) % (256 : Int) = U8 ⟨(s >>> 24).setWidth 8⟩ := by
  have h : U32 s / (16777216 : Int) = U32 (s >>> 24) := U32_shr s 24
  rw [h]; exact U32_byte _

theorem own_le4 {w : World} {B : Nat} (s : BitVec 32) (hb : B ≤ w.heap.size) :
    Own (w.alloc (.cells #[.int .u8 (U32 s % 256), .int .u8 (U32 s / 256 % 256), .int .u8 (U32 s / 65536 % 256), .int .u8 (U32 s / 16777216 % 256)] 5)) B 5 1 (some ⟨w.heap.size, 0, none⟩) 4 4 ((le4 s).map bv) :=
  Own.lit _ _ _ (by rw [byte_lo, byte_8, byte_16, byte_24]; rfl) rfl hb (by unfold maxLen; omega)

set_option maxHeartbeats 400000 in
theorem put_any (a : Option Addr) (len cap : Nat) (l : List UInt8) (w : World) (hl : BytesAt w a l) (hlen : l.length = len) (hm : len ≤ 1099511627776) :
    Calls Try.prog 9 #[.slice a len cap] w fun e w' => ∃ a' c', e = .returned (.slice a' (4 + len) c') ∧ Own w' w.heap.size 5 1 a' (4 + len) c' ((putOf l).map bv) ∧ Below w.heap.size w w' := by
  have HL := Lib.hid hlen
  clear hlen
  go_enter Try.func9, Try.ntmps9
  go_wp2_with fail
  refine (sum_any _ _ _ _ _ hl HL.out (by unfold maxLen; omega)).mono ?_
  rintro e w1 ⟨rfl, hb⟩
  have hown := own_le4 (w := w1) (B := w.heap.size) (more 0#32 l) hb.size
  go_wp2_with (at_builtin; refine wpList_append_row rfl (.tmp 19) (.tmp 20) 22 rfl bytesT rfl hown rfl ((hl.below hb).alloc _) (by rw [List.length_map, HL.out, Nat.mul_one]) (bv_one _) (by unfold maxLen; omega) (by omega) (by simp; exact Nat.le_succ_of_le hb.size) ?_)
  intro a' c' w2 hown' hg
  go_wp2_with fail
  go_ret
  exact ⟨a', c', rfl, by rw [putOf, List.map_append]; exact hown', (hb.alloc hb.size _).grown hg (by simp; exact Nat.le_succ_of_le hb.size) (ownBlock_ge hown)⟩

def rd4 (c0 c1 c2 c3 : UInt8) : BitVec 32 :=
  c0.toBitVec.setWidth 32 ||| (c1.toBitVec.setWidth 32 <<< 8) ||| (c2.toBitVec.setWidth 32 <<< 16) ||| (c3.toBitVec.setWidth 32 <<< 24)

set_option maxHeartbeats 400000 in
theorem take_short (a : Option Addr) (len cap : Nat) (w : World) (h : len < 4) :
    Calls Try.prog 7 #[.slice a len cap] w fun e w' => e = .returned (.tuple #[.slice none 0 0, .bool false]) ∧ w = w' := by
  go_enter Try.func7, Try.ntmps7
  go_wp2_with fail
  go_ret2
  exact ⟨rfl, rfl⟩

theorem ofInt_shl8 (c : UInt8) (k : Nat) (n : Int) (hk : n = ((2 ^ k : Nat) : Int)) : BitVec.ofInt 32 (U8 c % 4294967296 * n % 4294967296) = c.toBitVec.setWidth 32 <<< k := by
  subst hk
  have h := U32_shl (c.toBitVec.setWidth 32) k
  have e : U8 c % 4294967296 = U32 (c.toBitVec.setWidth 32) := by
    have h1 := U8_lo c
    have h2 := U8_hi c
    rw [Int.emod_eq_of_lt h1 (by omega)]
    simp only [U8, U32, BitVec.toNat_setWidth]
    have h3 : c.toNat < 256 := c.toBitVec.isLt
    have e : c.toBitVec.toNat = c.toNat := rfl
    rw [e]; omega
  rw [e, h, ofInt_U32]
theorem ofInt_mod8 (c : UInt8) : BitVec.ofInt 32 (U8 c % 4294967296) = c.toBitVec.setWidth 32 := by
  have h1 := U8_lo c
  have h2 := U8_hi c
  rw [Int.emod_eq_of_lt h1 (by omega), ofInt32_U8]
theorem rd4_of (c0 c1 c2 c3 : UInt8) : BitVec.ofInt 32 (U8 c0 % 4294967296) ||| BitVec.ofInt 32 (U8 c1 % 4294967296 * 256 % 4294967296) ||| BitVec.ofInt 32 (U8 c2 % 4294967296 * 65536 % 4294967296) ||| BitVec.ofInt 32 (U8 c3 % 4294967296 * 16777216 % 4294967296) = rd4 c0 c1 c2 c3 := by
  rw [ofInt_mod8, ofInt_shl8 c1 8 256 rfl, ofInt_shl8 c2 16 65536 rfl, ofInt_shl8 c3 24 16777216 rfl]; rfl
theorem ne_yes {x y : BitVec 32} (h : x ≠ y) : (U32 x != U32 y) = true := by simp [bne, U32_beq, h]
theorem ne_no {x y : BitVec 32} (h : x = y) : (U32 x != U32 y) = false := by simp [bne, h]

/-- What Take answers, four bytes and m behind them being there. -/
def TakePost (w : World) (ok : Bool) (m : List UInt8) (e : Ending) (w' : World) : Prop :=
  (ok = false → e = .returned (.tuple #[.slice none 0 0, .bool false])) ∧
  (ok = true → ∃ a' c', e = .returned (.tuple #[.slice a' m.length c', .bool true]) ∧ Own w' w.heap.size 5 1 a' m.length c' (m.map bv)) ∧ Below w.heap.size w w'

set_option maxHeartbeats 400000 in
theorem take_any (b o len cap : Nat) (c0 c1 c2 c3 : UInt8) (m : List UInt8) (w : World) (hl : BytesAt w (some ⟨b, o, none⟩) (c0 :: c1 :: c2 :: c3 :: m)) (hlen : m.length + 4 = len) (hcap : len ≤ cap) (hm : len ≤ 1099511627776) :
    Calls Try.prog 7 #[.slice (some ⟨b, o, none⟩) len cap] w (TakePost w (more 0#32 m == rd4 c0 c1 c2 c3) m) := by
  have g0 : w.cell? ⟨b, o, none⟩ = some (.int .u8 (U8 c0)) := by obtain ⟨_, _, e, h⟩ := hl 0 (by simp); cases e; exact h
  have g1 : w.cell? ⟨b, o + 1, none⟩ = some (.int .u8 (U8 c1)) := by obtain ⟨_, _, e, h⟩ := hl 1 (by simp); cases e; exact h
  have g2 : w.cell? ⟨b, o + 2, none⟩ = some (.int .u8 (U8 c2)) := by obtain ⟨_, _, e, h⟩ := hl 2 (by simp); cases e; exact h
  have g3 : w.cell? ⟨b, o + 3, none⟩ = some (.int .u8 (U8 c3)) := by obtain ⟨_, _, e, h⟩ := hl 3 (by simp); cases e; exact h
  have hd : BytesAt w (if cap = 4 then some ⟨b, o, none⟩ else some ⟨b, o + 4, none⟩) m := by
    split
    · have : m = [] := List.eq_nil_of_length_eq_zero (by omega)
      subst this; exact RowAt.nil _ _
    · exact RowAt.drop 4 hl
  have h4 : ¬ (len : Int) < 4 := by omega
  have k0 : (0 : Int) < len := by omega
  have k1 : (1 : Int) < len := by omega
  have k2 : (2 : Int) < len := by omega
  have k3 : (3 : Int) < len := by omega
  have HL := Lib.hid (show m.length = len - 4 by omega)
  clear hlen
  by_cases hc4 : cap = 4
  all_goals
    first | rw [if_pos hc4] at hd | rw [if_neg hc4] at hd
    by_cases hs : more 0#32 m = rd4 c0 c1 c2 c3
    · have hne := ne_no hs
      have HS := Lib.hid hs
      clear hs
      go_enter Try.func7, Try.ntmps7
      go_wp2_with fail
      go_quiet (fail)
      go_wp2_with fail
      rw [rd4_of]
      refine (sum_any _ _ _ _ _ (by exact hd) HL.out (by unfold maxLen; omega)).mono ?_
      rintro e w1 ⟨rfl, hb⟩
      have hb0 := (below_drewN (Below.refl w.heap.size w) nq).trans hb
      go_wp2_with (at_builtin; refine wpList_append_row rfl _ _ 22 rfl bytesT rfl (Own.nil _ w.heap.size _ _) rfl (hd.below hb0) (by rw [List.length_map, HL.out, Nat.mul_one]) (bv_one _) (by unfold maxLen; omega) (by omega) hb0.size ?_)
      intro a' c' w2 hown' hg
      go_wp2_with fail
      go_ret2
      exact ⟨fun h => by simp [HS.out] at h, fun _ => ⟨a', c', by rw [HL.out]; simp, by rw [HL.out]; simpa using hown'⟩, hb0.grown hg hb0.size (fun k hk => by cases hk)⟩
    · have hne := ne_yes hs
      have HS := Lib.hid hs
      clear hs
      go_enter Try.func7, Try.ntmps7
      go_wp2_with fail
      go_quiet (fail)
      go_wp2_with fail
      rw [rd4_of]
      refine (sum_any _ _ _ _ _ (by exact hd) HL.out (by unfold maxLen; omega)).mono ?_
      rintro e w1 ⟨rfl, hb⟩
      have hb0 := (below_drewN (Below.refl w.heap.size w) nq).trans hb
      go_wp2_with fail
      go_ret2
      exact ⟨fun _ => rfl, fun h => (HS.out (by simpa using h)).elim, hb0⟩

end Go.Proofs.Ytelhpnpngoaelaa
