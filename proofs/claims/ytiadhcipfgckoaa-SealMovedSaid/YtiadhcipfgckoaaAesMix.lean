/- The walk through the mixing of columns. -/
import Derived.Test.YtiadhcipfgckoaaAesA
namespace Go.Proofs.Ytiadhcipfgckoaa
open Go.RowKit
attribute [local go_sem] bits_xor_B8 bits_and_B8 bits_or_B8 ofInt_B8

def MixRel (w : World) (gb H : Nat) (m s : Nat → BitVec 8) (f : Nat) (i : Value) (wr : World) : Prop :=
  ∃ k : Nat, f + k = 16 ∧ i = .int .i64 k ∧ Blk wr H (fA 4 m) 92 ∧ Blk wr (H + 1) (fA 16 s) 46 ∧ Blk wr gb (fA 16 (fun j => if j < k then mxs m s j 4 else s j)) 46 ∧ w.grownBy wr (some gb)
def ColRel (w : World) (gb H k : Nat) (m s : Nat → BitVec 8) (f : Nat) (i : Value) (wr : World) : Prop :=
  ∃ q : Nat, f + q = 4 ∧ i = .int .i64 q ∧ Blk wr H (fA 4 m) 92 ∧ Blk wr (H + 1) (fA 16 s) 46 ∧ Blk wr gb (fA 16 (fun j => if j = k then mxs m s k q else if j < k then mxs m s j 4 else s j)) 46 ∧ w.grownBy wr (some gb)
theorem len16 : Try.prog.arrayLen 46 = 16 := by kernel_rfl
theorem elem16 : Try.prog.elem 46 = 5 := by kernel_rfl
theorem cut16 (b c : Nat) (hc : c ≤ 12) (W : World) : (Instr.sliceAt 46 (.pointer (some ⟨b, 0, none⟩)) (some (.int .i64 (c : Int))) (some (.int .i64 ((c : Int) + 4))) none).run Try.prog W = .ok (.slice (some ⟨b, c, none⟩) 4 (16 - c)) W := by
  have ht : Try.prog.underlying 46 = some (.array (Try.prog.arrayLen 46) (Try.prog.elem 46)) := by rw [len16, elem16]; exact Try.underlying46
  have hs : (sizeOf 5).run Try.prog W = .ok 1 W := by
    have := u8InfoA
    cases hq : Try.prog.info? 5 with
    | none => simp [hq] at this
    | some i => simp [hq] at this; simp [sizeOf, typeInfo, hq, this]
  rw [run_sliceAt_array_lh W _ _ ht .i64 .i64 (c : Int) ((c : Int) + 4) (by omega) (by omega) (by rw [len16]; omega), elem16, hs, len16]
  have e1 : ((c : Int) + 4).toNat - c = 4 := by omega
  have e2 : ¬ 16 = c := by omega
  simp only [slicedAt, Result.andThen_ok, Int.toNat_natCast, e1, if_neg e2, Addr.add_mid, Nat.mul_one, Nat.zero_add]

theorem col_ix (q k d : Nat) (hq : q < 4) (hk : k < 16) (hd : d = (q + 4 - k % 4) % 4) : (IntKind.i64.wrap (IntKind.i64.wrap ((q : Int) - (k : Int).tmod 4) + 4)).tmod 4 = (d : Int) := by
  rw [Int.tmod_eq_emod_of_nonneg (show (0 : Int) ≤ (k : Int) by omega), IntWalk.i64_in ((q : Int) - (k : Int) % 4) (by omega), IntWalk.i64_in _ (by omega), Int.tmod_eq_emod_of_nonneg (by omega)]
  omega
set_option maxHeartbeats 1000000 in
set_option maxRecDepth 40000 in
theorem mix_any (gb : Nat) (m s : Nat → BitVec 8) (w : World) (hB : Blk w gb (fA 16 s) 46) :
    Calls Try.prog 59 #[.pointer (some ⟨gb, 0, none⟩), .agg (fA 4 m)] w fun e w' =>
      e = .returned (.tuple #[]) ∧ Blk w' gb (fA 16 (mx m s)) 46 ∧ w.grownBy w' (some gb) := by
  have hz := hB.lt
  have hA := hB.alloc (.cells (fA 4 m) 92)
  go_enter Try.func59, Try.ntmps59
  go_wp2_with (first | refine wpList_load_blk rfl 46 agg16 _ rfl rfl hA (fA_size _ _) ?_ | refine wpList_store_blk rfl 46 agg16 (.tmp 4) _ rfl rfl rfl (Blk.new2' _ _ _ _) (fA_size _ _) rfl (fA_one _ _) ?_)
  refine wp_forget (fun W0 => Blk W0 w.heap.size (fA 4 m) 92 ∧ Blk W0 (w.heap.size + 1) (fA 16 s) 46 ∧ Blk W0 gb (fA 16 s) 46 ∧ w.grownBy W0 (some gb)) ⟨(Blk.new2 _ _ _ _).setRow_other _ _ (by omega), (Blk.new2' _ _ _ _).setRow _, (hA.alloc _).setRow_other _ _ (by omega), onlyA_newRow (onlyA_alloc (onlyA_alloc (World.grownBy.refl _ _) _) _) (by omega) _⟩ ?_
  rintro w0 ⟨hM, hW, hB0, hg0⟩
  obtain ⟨H, hH⟩ : ∃ H, H = w.heap.size := ⟨_, rfl⟩
  rw [← hH] at hW hM ⊢
  have hHg : H ≠ gb := by omega
  have hHg1 : H + 1 ≠ gb := by omega
  clear hB hz hH hA
  go_loopg [11] 16 (MixRel w gb H m s)
  case atStart => exact ⟨0, by omega, rfl, hM, hW, by simpa using hB0, hg0⟩
  case round =>
    clear hW hB0 hg0 hM
    obtain ⟨k, hk, rfl, hM, hW, hb, hg⟩ := hrel
    by_cases hlt : k < 16
    · have tk : decide ((k : Int) < 16) = true := by simp; omega
      have r2 := hb.rule
      have f2 := hb.free
      have ck := fA_at (fun j => if j < k then mxs m s j 4 else s j) hlt
      obtain ⟨c, hc⟩ : ∃ c, c = k / 4 * 4 := ⟨_, rfl⟩
      have hci : (k : Int) / 4 * 4 = (c : Int) := by omega
      have hc12 : c ≤ 12 := by omega
      have hc12' : (c : Int) + 4 ≤ 16 := by omega
      have HC := Lib.hid hc
      clear hc
      have hcut := cut16 (H + 1) c hc12
      go_wp2_with fail
      clear r2 f2
      obtain ⟨g0, rfl⟩ : ∃ g : Nat, g = gk := ⟨_, rfl⟩
      go_loopg [27] 4 (ColRel w gb H k m s)
      case atStart => exact ⟨0, by omega, rfl, hM.other _ _ hHg, hW.other _ _ hHg1, hb.setF hlt 0#8, onlyA_setCell hg k _⟩
      case round =>
        clear hM hW hb hg
        obtain ⟨q, hq, rfl, hM, hW, hb, hg⟩ := hrel
        by_cases hq4 : q < 4
        · obtain ⟨d, hd⟩ : ∃ d, d = (q + 4 - k % 4) % 4 := ⟨_, rfl⟩
          have hdi := col_ix q k d hq4 hlt hd
          have hd4 : d < 4 := by omega
          have hd4' : (d : Int) < 4 := by omega
          have c1 := hW.atF (show c + q < 16 by omega) rfl
          have HD := Lib.hid hd
          have HQ := Lib.hid hq
          clear hd hq
          go_wp2_with fail
          have C1 : ∀ W, Old wr.drew W → W.cell? ⟨gb, k, none⟩ = some (.int .u8 (B8 (mxs m s k q))) := fun W h => (hb.drew.old h).atF hlt (by simp)
          have C2 : ∀ W, Old wr.drew W → W.cell? ⟨H, d, none⟩ = some (.int .u8 (B8 (m d))) := fun W h => (hM.drew.old h).atF hd4 rfl
          clear c1
          have hkI : (k : Int) < 16 := by omega
          refine wp_region_treeR true Old Old.refl Old.trans (.step 0 (.step 1 (.step 2 (.step 3 (.step 4 (.step 5 (.step 6 (.step 7 (.step 8 (.step 9 (.step 10 (.step 11 (.step 12 (.step 13 (.step 16 (.step 14 (.step 15 (.step 17 (.step 18 .done))))))))))))))))))) (by kernel_rfl) (by kernel_rfl) (fun c a d v w h => by cases d <;> exact h) ?_
          repeat (first | (refine tree_skip rfl (by rfl) ?_; simp only [Act.put, List.setIfInBounds_toArray, List.set]) | (refine tree_quiet (v := ?_) rfl rfl (by rfl) ?_ ?_; rotate_left; (intro W hW; go_simp); (try with_reducible rfl); simp only [Act.put, List.setIfInBounds_toArray, List.set]))
          refine tree_loud rfl rfl (by rfl) (fun K hK => ?_); go_wp2_with fail
          refine (times_any (m d) (s (c + q)) _).mono ?_
          rintro e w' ⟨rfl, rfl⟩
          go_wp2_with fail
          refine hK _ _ (Old.refl _) ?_
          clear hK K
          repeat (first | (refine tree_skip rfl (by rfl) ?_; simp only [Act.put, List.setIfInBounds_toArray, List.set]) | (refine tree_quiet (v := ?_) rfl rfl (by rfl) ?_ ?_; rotate_left; (intro W hW; go_simp); (try with_reducible rfl); simp only [Act.put, List.setIfInBounds_toArray, List.set]))
          have hbd := hb.drew
          have r3 := hbd.rule
          have f3 := hbd.free
          have ck3 := fA_at (fun j => if j = k then mxs m s k q else if j < k then mxs m s j 4 else s j) hlt
          refine tree_store rfl rfl (by rfl) (fun K hK => ?_); go_wp2_with fail; refine tree_done ?_
          clear r3 f3 ck3
          go_wp2_with fail
          go_roundg (gk - 1)
          case rel =>
            have hd := HD.out
            have hq := HQ.out
            refine ⟨q + 1, by omega, by go_num, hM.drew.other _ _ hHg, hW.drew.other _ _ hHg1, ?_, onlyA_setCell (onlyA_drew hg) k _⟩
            refine (hbd.setF hlt (mxs m s k q ^^^ tim (m d) (s (c + q)))).ofF fun i _ => ?_
            by_cases e : i = k
            · rw [if_pos e, if_pos e, mxs, ← hd, ← HC.out]
            · rw [if_neg e, if_neg e, if_neg e]
          case measure => have hq := HQ.out; omega
        · obtain rfl : q = 4 := by omega
          go_wp2_with fail
          go_roundg (g0 - 1)
          case rel => exact ⟨k + 1, by omega, by go_num, hM, hW, hb.ofF fun i _ => congrFun (step_fun k (fun j => mxs m s j 4) s) i, hg⟩
          case measure => omega
    · go_wp2_with fail
      go_end0
      obtain rfl : k = 16 := by omega
      exact ⟨rfl, hb.ofF fun i h => by rw [mx, tb_at _ h, if_pos h], hg⟩
end Go.Proofs.Ytiadhcipfgckoaa
