/- The walks through the reference's own steps. -/
import Derived.Test.YtjkdgaehnachdaaAesMix
import Derived.Test.YtjkdgaehnachdaaAesReady
namespace Go.Proofs.Ytjkdgaehnachdaa
open Go.RowKit
attribute [local go_sem] bits_xor_B8 bits_and_B8 bits_or_B8 ofInt_B8

/-! ### The sum of two blocks -/
def XorRel (w : World) (H : Nat) (a b : Nat → BitVec 8) (f : Nat) (i : Value) (wr : World) : Prop :=
  ∃ k : Nat, f + k = 16 ∧ i = .int .i64 (k : Int) ∧ Blk wr H (fA 16 (fun j => if j < k then a j ^^^ b j else a j)) 27 ∧ Blk wr (H + 1) (fA 16 b) 27 ∧ (∃ z : Array Value, z.size = 16 ∧ Blk wr (H + 2) z 27) ∧ Below H w wr
set_option maxHeartbeats 400000 in
set_option maxRecDepth 40000 in
theorem rxor_any (a b : Nat → BitVec 8) (w : World) :
    Calls Try.prog 30 #[.agg (fA 16 a), .agg (fA 16 b)] w fun e w' => e = .returned (.agg (fA 16 (sx a b))) ∧ Below w.heap.size w w' := by
  go_enter Try.func30, Try.ntmps30
  go_wp2_with fail
  refine wp_forget (fun W0 => Blk W0 w.heap.size (fA 16 a) 27 ∧ Blk W0 (w.heap.size + 1) (fA 16 b) 27 ∧ (∃ z : Array Value, z.size = 16 ∧ Blk W0 (w.heap.size + 2) z 27) ∧ Below w.heap.size w W0) ⟨Blk.new3 _ _ _ _ _, Blk.new3' _ _ _ _ _, ⟨_, rfl, Blk.new3'' w #[.int .u8 0, .int .u8 0, .int .u8 0, .int .u8 0, .int .u8 0, .int .u8 0, .int .u8 0, .int .u8 0, .int .u8 0, .int .u8 0, .int .u8 0, .int .u8 0, .int .u8 0, .int .u8 0, .int .u8 0, .int .u8 0] _ _ _⟩, by (try unfold Kept); repeat (first | assumption | exact Below.refl _ _ | exact below_undrew (Below.refl _ _) | exact Below.mono (by assumption) (by first | (simp; done) | (simp; omega) | omega) | refine below_setRow ?_ (by first | (simp; done) | (simp; omega) | omega) _ | refine Below.setCell ?_ (by first | (simp; done) | (simp; omega) | omega) _ | refine Below.alloc ?_ (by first | (simp; done) | (simp; omega) | omega) _ | refine below_drewN ?_ _ | refine Below.drew ?_ | refine below_undrew ?_ | refine below_step ?_ (by assumption))⟩ ?_
  rintro w0 ⟨hA, hB, hZ, hb⟩
  obtain ⟨H, hH⟩ : ∃ H, H = w.heap.size := ⟨_, rfl⟩
  rw [← hH] at hA hB hZ hb ⊢
  have HH := Lib.hid hH
  clear hH
  go_loopg [5] 16 (XorRel w H a b)
  case atStart => exact ⟨0, by omega, rfl, by simpa using hA, hB, hZ, hb⟩
  case round =>
    clear hA hB hZ hb
    obtain ⟨k, hf, rfl, hA, hB, ⟨z, hz, hZ⟩, hb⟩ := hrel
    have HF := Lib.hid hf
    clear hf
    by_cases hlt : k < 16
    · have tk : decide ((k : Int) < 16) = true := by simp; omega
      go_wp2_with fail
      have hkI : (k : Int) < 16 := by omega
      have C1 : ∀ W, Old wr.drew W → W.cell? ⟨H, k, none⟩ = some (.int .u8 (B8 (a k))) := fun W h => (hA.drew.old h).atF hlt (by simp)
      have C2 : ∀ W, Old wr.drew W → W.cell? ⟨H + 1, k, none⟩ = some (.int .u8 (B8 (b k))) := fun W h => (hB.drew.old h).atF hlt rfl
      refine wp_region_treeR true Old Old.refl Old.trans (.step 0 (.step 1 (.step 2 (.step 3 (.step 4 (.step 5 (.step 6 (.step 7 (.step 8 (.step 9 .done)))))))))) (by kernel_rfl) (by kernel_rfl) (fun c a d v w h => by cases d <;> exact h) ?_
      repeat (first | (refine tree_skip rfl (by rfl) ?_; simp only [Act.put, List.setIfInBounds_toArray, List.set]) | (refine tree_quiet (v := ?_) rfl rfl (by rfl) ?_ ?_; rotate_left; (intro W hW; go_simp); (try with_reducible rfl); simp only [Act.put, List.setIfInBounds_toArray, List.set]))
      have hAd := hA.drew
      have r3 := hAd.rule
      have f3 := hAd.free
      have ck3 := fA_at (fun j => if j < k then a j ^^^ b j else a j) hlt
      refine tree_store rfl rfl (by rfl) (fun K hK => ?_); go_wp2_with fail; refine tree_done ?_
      clear r3 f3 ck3
      go_wp2_with fail
      go_roundg (gk - 1)
      case rel =>
        have hf := HF.out
        exact ⟨k + 1, by omega, by go_num, (hAd.setF hlt (a k ^^^ b k)).ofF fun i _ => congrFun (step_fun k (fun j => a j ^^^ b j) a) i, hB.drew.other _ _ (by simp), ⟨z, hz, hZ.drew.other _ _ (by simp)⟩, hb.drew.setCell (by simp) _⟩
      case measure => have hf := HF.out; omega
    · have hf := HF.out
      obtain rfl : k = 16 := by omega
      have tk : decide (((16 : Nat) : Int) < 16) = false := by simp
      clear hf
      have e : fA 16 (fun j => if j < 16 then a j ^^^ b j else a j) = fA 16 (sx a b) := fA_eq fun i h => by rw [sx, tb_at _ h, if_pos h]
      rw [e] at hA
      clear e
      go_wp2_with (first | refine wpList_load_blk rfl 27 agg16 _ rfl rfl hA (fA_size _ _) ?_ | refine wpList_store_blk rfl 27 agg16 (.tmp 4) _ (cells := fA 16 (sx a b)) rfl rfl rfl hZ (fA_size _ _) hz (fA_one _ _) ?_)
      refine post_blk rfl agg16 rfl (hZ.setRow _) (fA_size _ _) rfl ⟨rfl, ?_⟩
      rw [HH.out] at hb ⊢
      exact below_setRow hb (by omega) _

/-! ### All boxes -/
theorem zero_run {P : Program} {ty : TypeId} {v : Value} (h : (P.info? ty).bind (·.zero) = some v) (W : World) : (zeroValue ty).run P W = .ok v W := by
  cases hq : P.info? ty with
  | none => simp [hq] at h
  | some i =>
    have hz : i.zero = some v := by simpa [hq] using h
    simp [zeroValue, typeInfo, hq, hz]
theorem zero256 : (Try.prog.info? 44).bind (·.zero) = some (.agg (fA 256 fun _ => 0#8)) := by kernel_rfl
theorem agg256 : AggT Try.prog 44 256 := ⟨⟨_, Try.underlying44, rfl⟩, by kernel_rfl⟩
def boxf : Nat → BitVec 8 := fun i => bx (bn i)
def BoxesRel (w : World) (H : Nat) (f : Nat) (i : Value) (wr : World) : Prop :=
  ∃ k : Nat, f + k = 256 ∧ i = .int .i64 (k : Int) ∧ Blk wr (H + 1) (fA 256 (fun j => if j < k then boxf j else 0#8)) 44 ∧ (∃ z : Array Value, z.size = 256 ∧ Blk wr H z 44) ∧ Below H w wr
theorem rbox_of (n : Int) (x : BitVec 8) (h : n = B8 x) (w : World) :
    Calls Try.prog 9 #[.int .u8 n] w fun e w' => e = .returned (.int .u8 (B8 (bx x))) ∧ w = w' := by
  subst h; exact rbox_any x w
set_option maxHeartbeats 400000 in
set_option maxRecDepth 100000 in
theorem rboxes_any (w : World) :
    Calls Try.prog 24 #[] w fun e w' => e = .returned (.agg (fA 256 boxf)) ∧ Below w.heap.size w w' := by
  have hzr := zero_run zero256
  go_enter Try.func24, Try.ntmps24
  go_wp2_with fail
  have hA := (Blk.new w (fA 256 fun _ => 0#8) 44).alloc (.cells (fA 256 fun _ => 0#8) 44)
  have hB := Blk.new2' w (fA 256 fun _ => 0#8) 44 (.cells (fA 256 fun _ => 0#8) 44)
  have hb : Below w.heap.size w ((w.alloc (.cells (fA 256 fun _ => 0#8) 44)).alloc (.cells (fA 256 fun _ => 0#8) 44)) := by (try unfold Kept); repeat (first | assumption | exact Below.refl _ _ | exact below_undrew (Below.refl _ _) | exact Below.mono (by assumption) (by first | (simp; done) | (simp; omega) | omega) | refine below_setRow ?_ (by first | (simp; done) | (simp; omega) | omega) _ | refine Below.setCell ?_ (by first | (simp; done) | (simp; omega) | omega) _ | refine Below.alloc ?_ (by first | (simp; done) | (simp; omega) | omega) _ | refine below_drewN ?_ _ | refine Below.drew ?_ | refine below_undrew ?_ | refine below_step ?_ (by assumption))
  obtain ⟨H, hH⟩ : ∃ H, H = w.heap.size := ⟨_, rfl⟩
  rw [← hH] at hA hB hb ⊢
  have HH := Lib.hid hH
  clear hH hzr
  go_loopg [2] 256 (BoxesRel w H)
  case atStart => exact ⟨0, by omega, rfl, by simpa using hB, ⟨_, fA_size _ _, hA⟩, hb⟩
  case round =>
    clear hA hB hb
    obtain ⟨k, hf, rfl, hB, ⟨z, hz, hZ⟩, hb⟩ := hrel
    have HF := Lib.hid hf
    clear hf
    by_cases hlt : k < 256
    · have tk : decide ((k : Int) < 256) = true := by simp; omega
      have hkI : (k : Int) < 256 := by omega
      have r3 := hB.rule
      have f3 := hB.free
      have ck3 := fA_at (fun j => if j < k then boxf j else 0#8) hlt
      go_wp2_with (go_at_call 9; refine (rbox_of _ (bn k) (byte_nat k hlt) _).mono ?_; rintro e w' ⟨rfl, rfl⟩)
      clear r3 f3 ck3
      go_roundg (gk - 1)
      case rel =>
        have hf := HF.out
        exact ⟨k + 1, by omega, by go_num, (hB.setF hlt (bx (bn k))).ofF fun i _ => congrFun (step_fun k boxf fun _ => 0#8) i, ⟨z, hz, hZ.other _ _ (by simp)⟩, hb.setCell (by simp) _⟩
      case measure => have hf := HF.out; omega
    · have hf := HF.out
      obtain rfl : k = 256 := by omega
      have tk : decide (((256 : Nat) : Int) < 256) = false := by simp
      clear hf
      have e : fA 256 (fun j => if j < 256 then boxf j else 0#8) = fA 256 boxf := fA_eq fun i h => by rw [if_pos h]
      rw [e] at hB
      clear e
      go_wp2_with (first | refine wpList_load_blk rfl 44 agg256 _ rfl rfl hB (fA_size _ _) ?_ | refine wpList_store_blk rfl 44 agg256 (.tmp 0) _ (cells := fA 256 boxf) rfl rfl rfl hZ (fA_size _ _) hz (fA_one _ _) ?_)
      refine post_blk rfl agg256 rfl (hZ.setRow _) (fA_size _ _) rfl ⟨rfl, ?_⟩
      rw [HH.out] at hb ⊢
      exact below_setRow hb (by omega) _
end Go.Proofs.Ytjkdgaehnachdaa
