/- Texts put together (merge.py): AesRef, AesRefMix, AesRefKeys. -/
import Derived.Test.YtiadhcipfgckoaaAesMix
import Derived.Test.YtiadhcipfgckoaaAesReady
import Derived.Test.YtiadhcipfgckoaaAesOne
/- The walks through the reference's own steps. -/
namespace Go.Proofs.Ytiadhcipfgckoaa
open Go.RowKit
attribute [local go_sem] bits_xor_B8 bits_and_B8 bits_or_B8 ofInt_B8

/-! ### The sum of two blocks -/
def XorRel (w : World) (H : Nat) (a b : Nat → BitVec 8) (f : Nat) (i : Value) (wr : World) : Prop :=
  ∃ k : Nat, f + k = 16 ∧ i = .int .i64 (k : Int) ∧ Blk wr H (fA 16 (fun j => if j < k then a j ^^^ b j else a j)) 46 ∧ Blk wr (H + 1) (fA 16 b) 46 ∧ (∃ z : Array Value, z.size = 16 ∧ Blk wr (H + 2) z 46) ∧ Below H w wr
set_option maxHeartbeats 400000 in
set_option maxRecDepth 40000 in
theorem rxor_any (a b : Nat → BitVec 8) (w : World) :
    Calls Try.prog 63 #[.agg (fA 16 a), .agg (fA 16 b)] w fun e w' => e = .returned (.agg (fA 16 (sx a b))) ∧ Below w.heap.size w w' := by
  go_enter Try.func63, Try.ntmps63
  go_wp2_with fail
  refine wp_forget (fun W0 => Blk W0 w.heap.size (fA 16 a) 46 ∧ Blk W0 (w.heap.size + 1) (fA 16 b) 46 ∧ (∃ z : Array Value, z.size = 16 ∧ Blk W0 (w.heap.size + 2) z 46) ∧ Below w.heap.size w W0) ⟨Blk.new3 _ _ _ _ _, Blk.new3' _ _ _ _ _, ⟨_, rfl, Blk.new3'' w #[.int .u8 0, .int .u8 0, .int .u8 0, .int .u8 0, .int .u8 0, .int .u8 0, .int .u8 0, .int .u8 0, .int .u8 0, .int .u8 0, .int .u8 0, .int .u8 0, .int .u8 0, .int .u8 0, .int .u8 0, .int .u8 0] _ _ _⟩, by (try unfold Kept); repeat (first | assumption | exact Below.refl _ _ | exact below_undrew (Below.refl _ _) | exact Below.mono (by assumption) (by first | (simp; done) | (simp; omega) | omega) | refine below_setRow ?_ (by first | (simp; done) | (simp; omega) | omega) _ | refine Below.setCell ?_ (by first | (simp; done) | (simp; omega) | omega) _ | refine Below.alloc ?_ (by first | (simp; done) | (simp; omega) | omega) _ | refine below_drewN ?_ _ | refine Below.drew ?_ | refine below_undrew ?_ | refine below_step ?_ (by assumption))⟩ ?_
  rintro w0 ⟨hA, hB, hZ, hb⟩
  obtain ⟨H, hH⟩ : ∃ H, H = w.heap.size := ⟨_, rfl⟩
  rw [← hH] at hA hB hZ hb ⊢
  have HH := Lib.hid hH
  clear hH
  go_loopg [5] 16 (XorRel w H a b)
  case atStart => exact ⟨0, by omega, rfl, by simpa using hA, hB, hZ, hb⟩
  case round =>
    clear hA hB hZ hb
    obtain ⟨k, hf, rfl, hA, hB, ⟨z, hz, hZ⟩, hb⟩ := hrel
    have HF := Lib.hid hf
    clear hf
    by_cases hlt : k < 16
    · have tk : decide ((k : Int) < 16) = true := by simp; omega
      go_wp2_with fail
      have hkI : (k : Int) < 16 := by omega
      have C1 : ∀ W, Old wr.drew W → W.cell? ⟨H, k, none⟩ = some (.int .u8 (B8 (a k))) := fun W h => (hA.drew.old h).atF hlt (by simp)
      have C2 : ∀ W, Old wr.drew W → W.cell? ⟨H + 1, k, none⟩ = some (.int .u8 (B8 (b k))) := fun W h => (hB.drew.old h).atF hlt rfl
      refine wp_region_treeR true Old Old.refl Old.trans (.step 0 (.step 1 (.step 2 (.step 3 (.step 4 (.step 5 (.step 6 (.step 7 (.step 8 (.step 9 .done)))))))))) (by kernel_rfl) (by kernel_rfl) (fun c a d v w h => by cases d <;> exact h) ?_
      repeat (first | (refine tree_skip rfl (by rfl) ?_; simp only [Act.put, List.setIfInBounds_toArray, List.set]) | (refine tree_quiet (v := ?_) rfl rfl (by rfl) ?_ ?_; rotate_left; (intro W hW; go_simp); (try with_reducible rfl); simp only [Act.put, List.setIfInBounds_toArray, List.set]))
      have hAd := hA.drew
      have r3 := hAd.rule
      have f3 := hAd.free
      have ck3 := fA_at (fun j => if j < k then a j ^^^ b j else a j) hlt
      refine tree_store rfl rfl (by rfl) (fun K hK => ?_); go_wp2_with fail; refine tree_done ?_
      clear r3 f3 ck3
      go_wp2_with fail
      go_roundg (gk - 1)
      case rel =>
        have hf := HF.out
        exact ⟨k + 1, by omega, by go_num, (hAd.setF hlt (a k ^^^ b k)).ofF fun i _ => congrFun (step_fun k (fun j => a j ^^^ b j) a) i, hB.drew.other _ _ (by simp), ⟨z, hz, hZ.drew.other _ _ (by simp)⟩, hb.drew.setCell (by simp) _⟩
      case measure => have hf := HF.out; omega
    · have hf := HF.out
      obtain rfl : k = 16 := by omega
      have tk : decide (((16 : Nat) : Int) < 16) = false := by simp
      clear hf
      have e : fA 16 (fun j => if j < 16 then a j ^^^ b j else a j) = fA 16 (sx a b) := fA_eq fun i h => by rw [sx, tb_at _ h, if_pos h]
      rw [e] at hA
      clear e
      go_wp2_with (first | refine wpList_load_blk rfl 46 agg16 _ rfl rfl hA (fA_size _ _) ?_ | refine wpList_store_blk rfl 46 agg16 (.tmp 4) _ (cells := fA 16 (sx a b)) rfl rfl rfl hZ (fA_size _ _) hz (fA_one _ _) ?_)
      refine post_blk rfl agg16 rfl (hZ.setRow _) (fA_size _ _) rfl ⟨rfl, ?_⟩
      rw [HH.out] at hb ⊢
      exact below_setRow hb (by omega) _

/-! ### All boxes -/
theorem zero_runA {P : Program} {ty : TypeId} {v : Value} (h : (P.info? ty).bind (·.zero) = some v) (W : World) : (zeroValue ty).run P W = .ok v W := by
  cases hq : P.info? ty with
  | none => simp [hq] at h
  | some i =>
    have hz : i.zero = some v := by simpa [hq] using h
    simp [zeroValue, typeInfo, hq, hz]
theorem zero256 : (Try.prog.info? 69).bind (·.zero) = some (.agg (fA 256 fun _ => 0#8)) := by kernel_rfl
theorem agg256 : AggT Try.prog 69 256 := ⟨⟨_, Try.underlying69, rfl⟩, by kernel_rfl⟩
def boxf : Nat → BitVec 8 := fun i => bx (bn i)
def BoxesRel (w : World) (H : Nat) (f : Nat) (i : Value) (wr : World) : Prop :=
  ∃ k : Nat, f + k = 256 ∧ i = .int .i64 (k : Int) ∧ Blk wr (H + 1) (fA 256 (fun j => if j < k then boxf j else 0#8)) 69 ∧ (∃ z : Array Value, z.size = 256 ∧ Blk wr H z 69) ∧ Below H w wr
theorem rbox_of (n : Int) (x : BitVec 8) (h : n = B8 x) (w : World) :
    Calls Try.prog 61 #[.int .u8 n] w fun e w' => e = .returned (.int .u8 (B8 (bx x))) ∧ w = w' := by
  subst h; exact rbox_any x w
set_option maxHeartbeats 400000 in
set_option maxRecDepth 100000 in
theorem rboxes_any (w : World) :
    Calls Try.prog 40 #[] w fun e w' => e = .returned (.agg (fA 256 boxf)) ∧ Below w.heap.size w w' := by
  have hzr := zero_runA zero256
  go_enter Try.func40, Try.ntmps40
  go_wp2_with fail
  have hA := (Blk.new w (fA 256 fun _ => 0#8) 69).alloc (.cells (fA 256 fun _ => 0#8) 69)
  have hB := Blk.new2' w (fA 256 fun _ => 0#8) 69 (.cells (fA 256 fun _ => 0#8) 69)
  have hb : Below w.heap.size w ((w.alloc (.cells (fA 256 fun _ => 0#8) 69)).alloc (.cells (fA 256 fun _ => 0#8) 69)) := by (try unfold Kept); repeat (first | assumption | exact Below.refl _ _ | exact below_undrew (Below.refl _ _) | exact Below.mono (by assumption) (by first | (simp; done) | (simp; omega) | omega) | refine below_setRow ?_ (by first | (simp; done) | (simp; omega) | omega) _ | refine Below.setCell ?_ (by first | (simp; done) | (simp; omega) | omega) _ | refine Below.alloc ?_ (by first | (simp; done) | (simp; omega) | omega) _ | refine below_drewN ?_ _ | refine Below.drew ?_ | refine below_undrew ?_ | refine below_step ?_ (by assumption))
  obtain ⟨H, hH⟩ : ∃ H, H = w.heap.size := ⟨_, rfl⟩
  rw [← hH] at hA hB hb ⊢
  have HH := Lib.hid hH
  clear hH hzr
  go_loopg [2] 256 (BoxesRel w H)
  case atStart => exact ⟨0, by omega, rfl, by simpa using hB, ⟨_, fA_size _ _, hA⟩, hb⟩
  case round =>
    clear hA hB hb
    obtain ⟨k, hf, rfl, hB, ⟨z, hz, hZ⟩, hb⟩ := hrel
    have HF := Lib.hid hf
    clear hf
    by_cases hlt : k < 256
    · have tk : decide ((k : Int) < 256) = true := by simp; omega
      have hkI : (k : Int) < 256 := by omega
      have r3 := hB.rule
      have f3 := hB.free
      have ck3 := fA_at (fun j => if j < k then boxf j else 0#8) hlt
      go_wp2_with (go_at_call 61; refine (rbox_of _ (bn k) (byte_nat k hlt) _).mono ?_; rintro e w' ⟨rfl, rfl⟩)
      clear r3 f3 ck3
      go_roundg (gk - 1)
      case rel =>
        have hf := HF.out
        exact ⟨k + 1, by omega, by go_num, (hB.setF hlt (bx (bn k))).ofF fun i _ => congrFun (step_fun k boxf fun _ => 0#8) i, ⟨z, hz, hZ.other _ _ (by simp)⟩, hb.setCell (by simp) _⟩
      case measure => have hf := HF.out; omega
    · have hf := HF.out
      obtain rfl : k = 256 := by omega
      have tk : decide (((256 : Nat) : Int) < 256) = false := by simp
      clear hf
      have e : fA 256 (fun j => if j < 256 then boxf j else 0#8) = fA 256 boxf := fA_eq fun i h => by rw [if_pos h]
      rw [e] at hB
      clear e
      go_wp2_with (first | refine wpList_load_blk rfl 69 agg256 _ rfl rfl hB (fA_size _ _) ?_ | refine wpList_store_blk rfl 69 agg256 (.tmp 0) _ (cells := fA 256 boxf) rfl rfl rfl hZ (fA_size _ _) hz (fA_one _ _) ?_)
      refine post_blk rfl agg256 rfl (hZ.setRow _) (fA_size _ _) rfl ⟨rfl, ?_⟩
      rw [HH.out] at hb ⊢
      exact below_setRow hb (by omega) _
end Go.Proofs.Ytiadhcipfgckoaa

/- The walks through the reference's own steps: columns mixed. -/
namespace Go.Proofs.Ytiadhcipfgckoaa
open Go.RowKit
attribute [local go_sem] bits_xor_B8 bits_and_B8 bits_or_B8 ofInt_B8

/-! ### Columns mixed -/
/-- Out of the first m bytes done. -/
def MixI (w : World) (H n : Nat) (m s : Nat → BitVec 8) (wr : World) : Prop :=
  Blk wr H (fA 16 s) 46 ∧ Blk wr (H + 1) (fA 4 m) 92 ∧ (∃ z : Array Value, z.size = 16 ∧ Blk wr (H + 2) z 46) ∧ Blk wr (H + 3) (fA 16 (fun j => if j < n then mxs m s j 4 else 0#8)) 46 ∧ Below H w wr
def Mix1 (w : World) (H : Nat) (m s : Nat → BitVec 8) (f : Nat) (i : Value) (wr : World) : Prop :=
  ∃ c : Nat, f + c = 4 ∧ i = .int .i64 (c : Int) ∧ MixI w H (4 * c) m s wr
def Mix2 (w : World) (H c : Nat) (m s : Nat → BitVec 8) (f : Nat) (i : Value) (wr : World) : Prop :=
  ∃ r : Nat, f + r = 4 ∧ i = .int .i64 (r : Int) ∧ MixI w H (4 * c + r) m s wr
def Mix3 (w : World) (H c r : Nat) (m s : Nat → BitVec 8) (f : Nat) (i x : Value) (wr : World) : Prop :=
  ∃ k : Nat, f + k = 4 ∧ i = .int .i64 (k : Int) ∧ x = .int .u8 (B8 (mxs m s (4 * c + r) k)) ∧ MixI w H (4 * c + r) m s wr
theorem MixI.keep {w : World} {H n : Nat} {m s : Nat → BitVec 8} {wr : World} (h : MixI w H n m s wr) : MixI w H n m s wr.drew := h.imp id (fun h => h.imp id (fun h => h.imp id (fun h => h.imp id fun h => h.drew)))
theorem mix_ix (k r d : Nat) (hk : k < 4) (hr : r < 4) (hd : d = (k + 4 - r) % 4) : (IntKind.i64.wrap (IntKind.i64.wrap ((k : Int) - (r : Int)) + 4)).tmod 4 = (d : Int) := by
  rw [IntWalk.i64_in ((k : Int) - (r : Int)) (by omega), IntWalk.i64_in _ (by omega), Int.tmod_eq_emod_of_nonneg (by omega)]
  omega
set_option maxHeartbeats 1000000 in
set_option maxRecDepth 40000 in
theorem rmix_any (m s : Nat → BitVec 8) (w : World) :
    Calls Try.prog 64 #[.agg (fA 16 s), .agg (fA 4 m)] w fun e w' => e = .returned (.agg (fA 16 (mx m s))) ∧ Below w.heap.size w w' := by
  go_enter Try.func64, Try.ntmps64
  go_wp2_with fail
  refine wp_forget (fun W0 => MixI w w.heap.size 0 m s W0) ⟨(Blk.new3 _ _ _ _ _).alloc _, (Blk.new3' _ _ _ _ _).alloc _, ⟨fA 16 fun _ => 0#8, fA_size _ _, (Blk.new3'' w (fA 16 fun _ => 0#8) _ _ _).alloc _⟩, ?_, by (try unfold Kept); repeat (first | assumption | exact Below.refl _ _ | exact below_undrew (Below.refl _ _) | exact Below.mono (by assumption) (by first | (simp; done) | (simp; omega) | omega) | refine below_setRow ?_ (by first | (simp; done) | (simp; omega) | omega) _ | refine Below.setCell ?_ (by first | (simp; done) | (simp; omega) | omega) _ | refine Below.alloc ?_ (by first | (simp; done) | (simp; omega) | omega) _ | refine below_drewN ?_ _ | refine Below.drew ?_ | refine below_undrew ?_ | refine below_step ?_ (by assumption))⟩ ?_
  · have := Blk.new (((w.alloc (.cells (fA 16 s) 46)).alloc (.cells (fA 4 m) 92)).alloc (.cells (fA 16 fun _ => 0#8) 46)) (fA 16 fun _ => 0#8) 46
    simp at this
    exact this.ofF fun i _ => by simp
  rintro w0 hI
  obtain ⟨H, hH⟩ : ∃ H, H = w.heap.size := ⟨_, rfl⟩
  rw [← hH] at hI ⊢
  have HH := Lib.hid hH
  clear hH
  go_loopg [6] 4 (Mix1 w H m s)
  case atStart => exact ⟨0, by omega, rfl, hI⟩
  case round =>
    clear hI
    obtain ⟨c, hf, rfl, hI⟩ := hrel
    by_cases hc : c < 4
    · have tc : decide ((c : Int) < 4) = true := by simp; omega
      have HF := Lib.hid hf
      clear hf
      obtain ⟨g0, rfl⟩ : ∃ g : Nat, g = gk := ⟨_, rfl⟩
      go_wp2_with fail
      go_loopg [7, 8, 9] 4 (fun f i _ _ wr => Mix2 w H c m s f i wr)
      case atStart => exact ⟨0, by omega, rfl, hI⟩
      case round =>
        clear hI
        obtain ⟨r, hf, rfl, hI⟩ := hrel
        by_cases hr : r < 4
        · have tr : decide ((r : Int) < 4) = true := by simp; omega
          have HF2 := Lib.hid hf
          clear hf
          obtain ⟨g1, rfl⟩ : ∃ g : Nat, g = gk := ⟨_, rfl⟩
          go_wp2_with fail
          go_loopg [9, 8] 4 (Mix3 w H c r m s)
          case atStart => exact ⟨0, by omega, rfl, rfl, hI⟩
          case round =>
            clear hI
            obtain ⟨k, hf, rfl, rfl, hI⟩ := hrel
            by_cases hk : k < 4
            · have tk : decide ((k : Int) < 4) = true := by simp; omega
              have HF3 := Lib.hid hf
              clear hf
              obtain ⟨hA, hM, ⟨z, hz, hZ⟩, hO, hb⟩ := hI
              obtain ⟨d, hd⟩ : ∃ d, d = (k + 4 - r) % 4 := ⟨_, rfl⟩
              have hd4 : d < 4 := by omega
              have hx1 := mix_ix k r d hk hr hd
              obtain ⟨p, hp⟩ : ∃ p, p = 4 * c := ⟨_, rfl⟩
              obtain ⟨q, hq⟩ : ∃ q, q = p + k := ⟨_, rfl⟩
              have hx2 : IntKind.i64.wrap (4 * (c : Int)) = (p : Int) := by rw [IntWalk.i64_in _ (by omega)]; omega
              have hx3 : IntKind.i64.wrap ((p : Int) + (k : Int)) = (q : Int) := by rw [IntWalk.i64_in _ (by omega)]; omega
              have hd4' : (d : Int) < 4 := by omega
              have hck : (q : Int) < 16 := by omega
              have C1 : ∀ W, Old wr.drew W → W.cell? ⟨H + 1, d, none⟩ = some (.int .u8 (B8 (m d))) := fun W h => (hM.drew.old h).atF hd4 rfl
              have C2 : ∀ W, Old wr.drew W → W.cell? ⟨H, q, none⟩ = some (.int .u8 (B8 (s q))) := fun W h => (hA.drew.old h).atF (by omega) rfl
              have HD := Lib.hid hd
              have HP := Lib.hid hp
              have HQ := Lib.hid hq
              clear hd hp hq
              go_wp2_with fail
              refine wp_region_old (0 :: 1 :: 2 :: 3 :: 4 :: 5 :: 6 :: 7 :: 8 :: 9 :: 10 :: 11 :: 12 :: 13 :: 14 :: 15 :: 16 :: []) (by kernel_rfl) (by kernel_rfl) (fun c a d v w h => by cases d <;> exact h) ?_
              repeat (first | (refine lex_skip rfl (by rfl) ?_; simp only [Act.put, List.setIfInBounds_toArray, List.set]) | (refine lex_quiet (v := ?_) rfl rfl (by rfl) ?_ ?_; rotate_left; (intro W hW; go_simp); (try with_reducible rfl); simp only [Act.put, List.setIfInBounds_toArray, List.set]))
              refine lex_loud rfl rfl (by rfl) (fun K hK => ?_); go_wp2_with fail
              refine (rtimes_any (m d) (s q) _).mono ?_
              rintro e w' ⟨rfl, rfl⟩
              go_wp2_with fail
              refine hK _ _ (Old.refl _) ?_
              clear hK K
              repeat (first | (refine lex_skip rfl (by rfl) ?_; simp only [Act.put, List.setIfInBounds_toArray, List.set]) | (refine lex_quiet (v := ?_) rfl rfl (by rfl) ?_ ?_; rotate_left; (intro W hW; go_simp); (try with_reducible rfl); simp only [Act.put, List.setIfInBounds_toArray, List.set]))
              refine lex_nil ?_
              go_wp2_with fail
              go_roundg (gk - 1)
              case rel =>
                have hf := HF3.out
                refine ⟨k + 1, by omega, by go_num, ?_, hA.drew, hM.drew, ⟨z, hz, hZ.drew⟩, hO.drew, hb.drew⟩
                rw [mxs, show (4 * c + r) % 4 = r by omega, show (4 * c + r) / 4 * 4 = 4 * c by omega, ← HD.out, ← HP.out, ← HQ.out]
              case measure => have hf := HF3.out; omega
            · obtain rfl : k = 4 := by omega
              clear hf
              obtain ⟨hA, hM, ⟨z, hz, hZ⟩, hO, hb⟩ := hI
              have r3 := hO.rule
              have f3 := hO.free
              have ck3 := fA_at (fun j => if j < 4 * c + r then mxs m s j 4 else 0#8) (show 4 * c + r < 16 by omega)
              go_wp2_with fail
              clear r3 f3 ck3
              go_roundg (g1 - 1)
              case rel =>
                have hf := HF2.out
                refine ⟨r + 1, by omega, by go_num, hA.other _ _ (by first | (simp; done) | (simp; omega) | omega), hM.other _ _ (by first | (simp; done) | (simp; omega) | omega), ⟨z, hz, hZ.other _ _ (by first | (simp; done) | (simp; omega) | omega)⟩, ?_, hb.setCell (by first | (simp; done) | (simp; omega) | omega) _⟩
                exact (hO.setF (by omega) (mxs m s (4 * c + r) 4)).ofF fun i _ => congrFun (step_fun (4 * c + r) (fun j => mxs m s j 4) fun _ => 0#8) i
              case measure => have hf := HF2.out; omega
        · obtain rfl : r = 4 := by omega
          clear hf
          go_wp2_with fail
          go_roundg (g0 - 1)
          case rel => exact ⟨c + 1, by have := HF.out; omega, by go_num, hI⟩
          case measure => have hf := HF.out; omega
    · obtain rfl : c = 4 := by omega
      clear hf
      obtain ⟨hA, hM, ⟨z, hz, hZ⟩, hO, hb⟩ := hI
      have e : fA 16 (fun j => if j < 4 * 4 then mxs m s j 4 else 0#8) = fA 16 (mx m s) := fA_eq fun i h => by rw [mx, tb_at _ h, if_pos (by omega)]
      rw [e] at hO
      clear e
      go_wp2_with (first | refine wpList_load_blk rfl 46 agg16 _ rfl rfl hO (fA_size _ _) ?_ | refine wpList_store_blk rfl 46 agg16 (.tmp 4) _ (cells := fA 16 (mx m s)) rfl rfl rfl hZ (fA_size _ _) hz (fA_one _ _) ?_)
      refine post_blk rfl agg16 rfl (hZ.setRow _) (fA_size _ _) rfl ⟨rfl, ?_⟩
      rw [HH.out] at hb ⊢
      exact below_setRow hb (by omega) _
end Go.Proofs.Ytiadhcipfgckoaa

/- The walks through the reference's own steps: round keys. -/
namespace Go.Proofs.Ytiadhcipfgckoaa
open Go.RowKit
attribute [local go_sem] bits_xor_B8 bits_and_B8 bits_or_B8 ofInt_B8

/-! ### In plain words -/
/-- All round keys, one behind the other. -/
def kw (key : Nat → BitVec 8) (j : Nat) : BitVec 8 := rk key (j / 16) (j % 16)
theorem kw_zero (key : Nat → BitVec 8) (j : Nat) (h : j < 16) : kw key j = key j := by
  rw [kw, show j / 16 = 0 by omega, show j % 16 = j by omega, rk, tb_at _ h]
theorem kw_next (key : Nat → BitVec 8) (R j : Nat) (h : j < 16) : kw key (16 * (R + 1) + j) = nkc (rc R) (rk key R) (j % 4) (j / 4) := by
  rw [kw, show (16 * (R + 1) + j) / 16 = R + 1 by omega, show (16 * (R + 1) + j) % 16 = j by omega, rk, nk, tb_at _ h]
theorem kw_at (key : Nat → BitVec 8) (R j : Nat) (h : j < 16) : kw key (16 * R + j) = rk key R j := by
  rw [kw, show (16 * R + j) / 16 = R by omega, show (16 * R + j) % 16 = j by omega]
/-- The word that is put to the one four words ahead. -/
def twd (key : Nat → BitVec 8) (i c : Nat) : BitVec 8 :=
  if i % 4 = 0 then bx (kw key (4 * (i - 1) + (c + 1) % 4)) ^^^ (if c = 0 then rc (i / 4 - 1) else 0#8) else kw key (4 * (i - 1) + c)
theorem kw_step (key : Nat → BitVec 8) (i c : Nat) (hi : 4 ≤ i) (hc : c < 4) : kw key (4 * i + c) = kw key (4 * (i - 4) + c) ^^^ twd key i c := by
  obtain ⟨R, q, hq, rfl⟩ : ∃ R q, q < 4 ∧ i = 4 * (R + 1) + q := ⟨i / 4 - 1, i % 4, by omega, by omega⟩
  have e1 : kw key (4 * (4 * (R + 1) + q) + c) = nkc (rc R) (rk key R) c q := by
    rw [show 4 * (4 * (R + 1) + q) + c = 16 * (R + 1) + (4 * q + c) by omega, kw_next _ _ _ (by omega), show (4 * q + c) % 4 = c by omega, show (4 * q + c) / 4 = q by omega]
  have e2 : kw key (4 * (4 * (R + 1) + q - 4) + c) = rk key R (4 * q + c) := by
    rw [show 4 * (4 * (R + 1) + q - 4) + c = 16 * R + (4 * q + c) by omega, kw_at _ _ _ (by omega)]
  rw [e1, e2]
  unfold twd
  by_cases h : q = 0
  · subst h
    rw [if_pos (by omega), show (4 * (R + 1) + 0) / 4 - 1 = R by omega, show 4 * (4 * (R + 1) + 0 - 1) + (c + 1) % 4 = 16 * R + (12 + (c + 1) % 4) by omega, kw_at _ _ _ (by omega), nkc, nk0, BitVec.xor_comm, Nat.mul_zero, Nat.zero_add]
  · obtain ⟨p, rfl⟩ : ∃ p, q = p + 1 := ⟨q - 1, by omega⟩
    rw [if_neg (by omega), show 4 * (4 * (R + 1) + (p + 1) - 1) + c = 16 * (R + 1) + (4 * p + c) by omega, kw_next _ _ _ (by omega), show (4 * p + c) % 4 = c by omega, show (4 * p + c) / 4 = p by omega, nkc, BitVec.xor_comm]

theorem zero53 : (Try.prog.info? 88).bind (·.zero) = some (.agg (fA 176 fun _ => 0#8)) := by kernel_rfl
theorem zero60 : (Try.prog.info? 115).bind (·.zero) = some (.agg (fA 176 fun _ => 0#8)) := by kernel_rfl
theorem agg53 : AggT Try.prog 88 176 := ⟨⟨_, Try.underlying88, rfl⟩, by kernel_rfl⟩
structure KyIn (w : World) (H : Nat) (key : Nat → BitVec 8) (f : Nat → BitVec 8) (wr : World) : Prop where
  key : Blk wr H (fA 16 key) 46
  box : Blk wr (H + 1) (fA 256 boxf) 69
  out : ∃ z : Array Value, z.size = 176 ∧ Blk wr (H + 2) z 88
  ws : Blk wr (H + 3) (fA 176 f) 115
  below : Below H w wr
theorem KyIn.drew {w : World} {H : Nat} {key f : Nat → BitVec 8} {wr : World} (h : KyIn w H key f wr) : KyIn w H key f wr.drew := ⟨h.key, h.box, h.out, h.ws, ⟨h.below.os, h.below.tape, h.below.output, h.below.size, h.below.block⟩⟩
theorem KyIn.ofF {w : World} {H : Nat} {key f g : Nat → BitVec 8} {wr : World} (h : KyIn w H key f wr) (e : ∀ i, i < 176 → f i = g i) : KyIn w H key g wr := ⟨h.key, h.box, h.out, h.ws.ofF e, h.below⟩
theorem KyIn.set {w : World} {H : Nat} {key f : Nat → BitVec 8} {wr : World} (h : KyIn w H key f wr) {j : Nat} (hj : j < 176) (v : BitVec 8) : KyIn w H key (fun i => if i = j then v else f i) (wr.setCell ⟨H + 3, j, none⟩ (.int .u8 (B8 v))) :=
  ⟨h.key.other _ _ (by show H ≠ H + 3; omega), h.box.other _ _ (by show H + 1 ≠ H + 3; omega), by obtain ⟨z, hz, hZ⟩ := h.out; exact ⟨z, hz, hZ.other _ _ (by show H + 2 ≠ H + 3; omega)⟩, h.ws.setF hj v, h.below.setCell (by show H ≤ H + 3; omega) _⟩
theorem KyIn.far {w : World} {H : Nat} {key f : Nat → BitVec 8} {wr : World} (h : KyIn w H key f wr) {g : Nat} (hg : H + 3 < g) (i : Nat) (v : Value) : KyIn w H key f (wr.setCell ⟨g, i, none⟩ v) :=
  ⟨h.key.other _ _ (by show H ≠ g; omega), h.box.other _ _ (by show H + 1 ≠ g; omega), by obtain ⟨z, hz, hZ⟩ := h.out; exact ⟨z, hz, hZ.other _ _ (by show H + 2 ≠ g; omega)⟩, h.ws.other _ _ (by show H + 3 ≠ g; omega), h.below.setCell (by show H ≤ g; omega) _⟩
theorem KyIn.farRow {w : World} {H : Nat} {key f : Nat → BitVec 8} {wr : World} (h : KyIn w H key f wr) {g : Nat} (hg : H + 3 < g) (cs : Array Value) : KyIn w H key f (wr.setRow g cs) :=
  ⟨h.key.setRow_other _ _ (by omega), h.box.setRow_other _ _ (by omega), by obtain ⟨z, hz, hZ⟩ := h.out; exact ⟨z, hz, hZ.setRow_other _ _ (by omega)⟩, h.ws.setRow_other _ _ (by omega), below_setRow h.below (by omega) _⟩
theorem KyIn.old {w : World} {H : Nat} {key f : Nat → BitVec 8} {wr wq : World} (h : KyIn w H key f wr) (hb : Below wr.heap.size wr wq) : KyIn w H key f wq :=
  ⟨h.key.old hb, h.box.old hb, by obtain ⟨z, hz, hZ⟩ := h.out; exact ⟨z, hz, hZ.old hb⟩, h.ws.old hb, h.below.trans (hb.mono (by have := h.key.lt; omega))⟩
def Ky1 (w : World) (H : Nat) (key : Nat → BitVec 8) (f : Nat) (i : Value) (wr : World) : Prop :=
  ∃ k : Nat, f + k = 16 ∧ i = .int .i64 (k : Int) ∧ KyIn w H key (fun j => if j < k then key j else 0#8) wr
def Ky2 (w : World) (H : Nat) (key : Nat → BitVec 8) (f : Nat) (i r : Value) (wr : World) : Prop :=
  ∃ k : Nat, f + k = 44 ∧ 4 ≤ k ∧ i = .int .i64 (k : Int) ∧ r = .int .u8 (B8 (rc ((k - 1) / 4))) ∧ KyIn w H key (fun j => if j < 4 * k then kw key j else 0#8) wr
def Ky3 (w : World) (H T n : Nat) (key : Nat → BitVec 8) (f : Nat) (i : Value) (wr : World) : Prop :=
  ∃ k : Nat, f + k = 4 ∧ i = .int .i64 (k : Int) ∧ KyIn w H key (fun j => if j < 4 * n + k then kw key j else 0#8) wr ∧ Blk wr T (fA 4 (twd key n)) 92
def Ky4 (w : World) (H O : Nat) (key : Nat → BitVec 8) (f : Nat) (i : Value) (wr : World) : Prop :=
  ∃ k : Nat, f + k = 176 ∧ i = .int .i64 (k : Int) ∧ KyIn w H key (kw key) wr ∧ Blk wr O (fA 176 (fun j => if j < k then kw key j else 0#8)) 88

/-- A world under a new name, whatever is said of it. -/
theorem q_forget {G : World → Prop} {W : World} (F : World → Prop) (hF : F W) (h : ∀ W0, F W0 → G W0) : G W := h W hF
theorem twd_lit (key : Nat → BitVec 8) (n m : Nat) (hm : m = n - 1) (h : n % 4 = 0) : (#[.int .u8 (B8 (bx (kw key (4 * m + 1)) ^^^ rc ((n - 1) / 4))), .int .u8 (B8 (bx (kw key (4 * m + 2)))), .int .u8 (B8 (bx (kw key (4 * m + 3)))), .int .u8 (B8 (bx (kw key (4 * m + 0))))] : Array Value) = fA 4 (twd key n) := by
  have e0 : twd key n 0 = bx (kw key (4 * m + 1)) ^^^ rc ((n - 1) / 4) := by rw [twd, if_pos h, if_pos rfl, hm, show n / 4 - 1 = (n - 1) / 4 by omega]
  have e1 : twd key n 1 = bx (kw key (4 * m + 2)) := by rw [twd, if_pos h, if_neg (by omega), hm, BitVec.xor_zero]
  have e2 : twd key n 2 = bx (kw key (4 * m + 3)) := by rw [twd, if_pos h, if_neg (by omega), hm, BitVec.xor_zero]
  have e3 : twd key n 3 = bx (kw key (4 * m + 0)) := by rw [twd, if_pos h, if_neg (by omega), hm, BitVec.xor_zero]
  rw [← e0, ← e1, ← e2, ← e3]
  rfl
theorem rc_next (n : Nat) (hn : 4 ≤ n) (h : n % 4 = 0) : rc ((n + 1 - 1) / 4) = tim (rc ((n - 1) / 4)) 2#8 := by rw [show (n + 1 - 1) / 4 = (n - 1) / 4 + 1 by omega, rc]
theorem rc_stay (n : Nat) (hn : 4 ≤ n) (h : ¬ n % 4 = 0) : rc ((n + 1 - 1) / 4) = rc ((n - 1) / 4) := by rw [show (n + 1 - 1) / 4 = (n - 1) / 4 by omega]

set_option maxHeartbeats 1000000 in
set_option maxRecDepth 100000 in
theorem rkeys_any (key : Nat → BitVec 8) (w : World) :
    Calls Try.prog 62 #[.agg (fA 16 key), .agg (fA 256 boxf)] w fun e w' => e = .returned (.agg (fA 176 (kw key))) ∧ Below w.heap.size w w' := by
  have hz1 := zero_runA zero53
  have hz2 := zero_runA zero60
  go_enter Try.func62, Try.ntmps62
  go_wp2_with fail
  clear hz2
  refine wp_forget (fun W0 => KyIn w w.heap.size key (fun _ => 0#8) W0) ⟨(Blk.new3 _ _ _ _ _).alloc _, (Blk.new3' _ _ _ _ _).alloc _, ⟨fA 176 fun _ => 0#8, fA_size _ _, (Blk.new3'' w (fA 176 fun _ => 0#8) _ _ _).alloc _⟩, ?_, by (try unfold Kept); repeat (first | assumption | exact Below.refl _ _ | exact below_undrew (Below.refl _ _) | exact Below.mono (by assumption) (by first | (simp; done) | (simp; omega) | omega) | refine below_setRow ?_ (by first | (simp; done) | (simp; omega) | omega) _ | refine Below.setCell ?_ (by first | (simp; done) | (simp; omega) | omega) _ | refine Below.alloc ?_ (by first | (simp; done) | (simp; omega) | omega) _ | refine below_drewN ?_ _ | refine Below.drew ?_ | refine below_undrew ?_ | refine below_step ?_ (by assumption))⟩ ?_
  · have := Blk.new (((w.alloc (.cells (fA 16 key) 46)).alloc (.cells (fA 256 boxf) 69)).alloc (.cells (fA 176 fun _ => 0#8) 88)) (fA 176 fun _ => 0#8) 115
    simp at this
    exact this
  rintro w0 hI
  obtain ⟨H, hH⟩ : ∃ H, H = w.heap.size := ⟨_, rfl⟩
  rw [← hH] at hI ⊢
  have HH := Lib.hid hH
  clear hH
  have HZ := Lib.hid hz1
  clear hz1
  go_loopg [6] 16 (Ky1 w H key)
  case atStart => exact ⟨0, by omega, rfl, hI⟩
  case round =>
    clear hI
    obtain ⟨k, hf, rfl, hI⟩ := hrel
    by_cases hk : k < 16
    · have tk : decide ((k : Int) < 16) = true := by simp; omega
      have HF := Lib.hid hf
      clear hf
      have hkI : (k : Int) < 16 := by omega
      obtain ⟨p, hp⟩ : ∃ p, p = k / 4 := ⟨_, rfl⟩
      obtain ⟨q, hq⟩ : ∃ q, q = k % 4 := ⟨_, rfl⟩
      have hpI : IntKind.i64.wrap ((k : Int) / 4) = (p : Int) := by rw [IntWalk.i64_in _ (by omega)]; omega
      have hqI : (k : Int).tmod 4 = (q : Int) := by rw [Int.tmod_eq_emod_of_nonneg (by omega)]; omega
      have hp4 : (p : Int) < 44 := by omega
      have hq4 : (q : Int) < 4 := by omega
      have C1 : ∀ W, Old wr.drew W → W.cell? ⟨H, k, none⟩ = some (.int .u8 (B8 (key k))) := fun W h => (hI.key.drew.old h).atF hk rfl
      have HP := Lib.hid (show p * 4 + q = k by omega)
      clear hp hq
      go_wp2_with fail
      refine wp_region_treeR true Old Old.refl Old.trans (.step 0 (.step 1 (.step 2 (.step 3 (.step 4 (.step 5 (.step 6 (.step 7 (.step 8 (.step 9 .done)))))))))) (by kernel_rfl) (by kernel_rfl) (fun c a d v w h => by cases d <;> exact h) ?_
      repeat (first | (refine tree_skip rfl (by rfl) ?_; simp only [Act.put, List.setIfInBounds_toArray, List.set]) | (refine tree_quiet (v := ?_) rfl rfl (by rfl) ?_ ?_; rotate_left; (intro W hW; go_simp); (try with_reducible rfl); simp only [Act.put, List.setIfInBounds_toArray, List.set]))
      have hd := hI.ws.drew
      have r3 := hd.rule
      have f3 := hd.free
      have ck3 := fA_at (fun j => if j < k then key j else 0#8) (show p * 4 + q < 176 by have := HP.out; omega)
      refine tree_store rfl rfl (by rfl) (fun K hK => ?_); go_wp2_with fail; refine tree_done ?_
      clear r3 f3 ck3
      go_wp2_with fail
      go_roundg (gk - 1)
      case rel =>
        have hf := HF.out
        refine ⟨k + 1, by omega, by go_num, ?_⟩
        rw [HP.out]
        exact (hI.drew.set (by omega) (key k)).ofF fun i _ => congrFun (step_fun k key fun _ => 0#8) i
      case measure => have hf := HF.out; omega
    · obtain rfl : k = 16 := by omega
      clear hf
      go_wp2_with fail
      go_loopg [8, 7] 40 (Ky2 w H key)
      case atStart => exact ⟨4, by omega, by omega, rfl, rfl, hI.ofF fun j _ => by
        by_cases h : j < 16
        · rw [if_pos h, if_pos (by omega), kw_zero _ _ h]
        · rw [if_neg h, if_neg (by omega)]⟩
      case round =>
        clear hI
        obtain ⟨n, hf, hn, rfl, rfl, hI⟩ := hrel
        by_cases hn44 : n < 44
        · have tn : decide ((n : Int) < 44) = true := by simp; omega
          have HF := Lib.hid hf
          clear hf
          obtain ⟨g0, rfl⟩ : ∃ g : Nat, g = gk := ⟨_, rfl⟩
          obtain ⟨m, hm⟩ : ∃ m, m = n - 1 := ⟨_, rfl⟩
          obtain ⟨T, hTT⟩ : ∃ T, T = wr.heap.size := ⟨_, rfl⟩
          have hHT : H + 3 < T := by have := hI.ws.lt; omega
          have hnI : (n : Int) < 44 := by omega
          have hn4I : (4 : Int) ≤ (n : Int) := by omega
          have hnm : (n : Int) - 1 = (m : Int) := by omega
          have hmI : (m : Int) < 44 := by omega
          have hw := hI.ws
          have hpart : ((fA 176 fun j => if j < 4 * n then kw key j else 0#8).toList.drop (m * 4)).take 4 = fL 4 fun j => kw key (4 * m + j) := by
            rw [fA_part _ (by omega)]
            exact fL_eq fun j hj => by rw [if_pos (by omega), Nat.mul_comm]
          have HPT := Lib.hid hpart
          clear hpart
          have hI1 := hI.old ((Below.refl _ _).alloc (Nat.le_refl _) (.cells (fA 4 fun _ => 0#8) 92))
          have hT1 := Blk.new wr (fA 4 fun _ => 0#8) 92
          rw [← hTT] at hT1
          by_cases h4 : n % 4 = 0
          · have t4 : ((n : Int) % 4 == 0) = true := by simp; omega
            have HM := Lib.hid hm
            have H4 := Lib.hid h4
            clear h4 hm
            go_upto_region 12 with (first | refine wpList_load_part rfl 92 agg4 _ rfl rfl hw HPT.out (fL_length _ _) ?_ | refine wpList_store_blk rfl 92 agg4 (.tmp 9) _ (cells := fA 4 fun j => kw key (4 * m + j)) rfl rfl rfl (Blk.new _ _ _) (fA_size _ _) rfl (fA_one _ _) ?_)
            rw [← hTT]
            refine wp_forget (fun W0 => KyIn w H key (fun j => if j < 4 * n then kw key j else 0#8) W0 ∧ Blk W0 T (fA 4 fun j => kw key (4 * m + j)) 92) ⟨hI1.farRow hHT _, hT1.setRow _⟩ ?_
            clear hI hI1 hT1 hw HPT hTT
            rintro w5 ⟨hI, hT⟩
            have HL := Lib.hid (twd_lit key n m HM.out H4.out)
            obtain ⟨y, hy⟩ : ∃ y : Nat → BitVec 8, y = fun j => kw key (4 * m + j) := ⟨_, rfl⟩
            rw [← hy] at hT
            have HY := Lib.hid hy
            clear hy
            have C0 : ∀ W, Old w5.drew W → W.cell? ⟨T, 0, none⟩ = some (.int .u8 (B8 (y 0))) := fun W h => (hT.drew.old h).atF (by omega) rfl
            have C1 : ∀ W, Old w5.drew W → W.cell? ⟨T, 1, none⟩ = some (.int .u8 (B8 (y 1))) := fun W h => (hT.drew.old h).atF (by omega) rfl
            have C2 : ∀ W, Old w5.drew W → W.cell? ⟨T, 2, none⟩ = some (.int .u8 (B8 (y 2))) := fun W h => (hT.drew.old h).atF (by omega) rfl
            have C3 : ∀ W, Old w5.drew W → W.cell? ⟨T, 3, none⟩ = some (.int .u8 (B8 (y 3))) := fun W h => (hT.drew.old h).atF (by omega) rfl
            have D0 : ∀ (x : BitVec 8) W, Old w5.drew W → W.cell? ⟨H + 1, x.toNat, none⟩ = some (.int .u8 (B8 (bx x))) := fun x W h => (hI.box.drew.old h).atF x.isLt (by rw [boxf, bn_toNat])
            have l0 := B8_lo (y 0)
            have l1 := B8_lo (y 1)
            have l2 := B8_lo (y 2)
            have l3 := B8_lo (y 3)
            have u0 := B8_lt (y 0)
            have u1 := B8_lt (y 1)
            have u2 := B8_lt (y 2)
            have u3 := B8_lt (y 3)
            have n0 := B8_toNat (y 0)
            have n1 := B8_toNat (y 1)
            have n2 := B8_toNat (y 2)
            have n3 := B8_toNat (y 3)
            refine wp_region_treeR true Old Old.refl Old.trans (.step 0 (.step 1 (.step 2 (.step 3 (.step 4 (.step 5 (.step 6 (.step 7 (.step 8 (.step 9 (.step 10 (.step 11 (.step 12 (.step 13 (.step 14 (.step 15 (.step 16 (.step 17 (.step 18 (.step 19 .done)))))))))))))))))))) (by kernel_rfl) (by kernel_rfl) (fun c a d v w h => by cases d <;> exact h) ?_
            repeat (first | (refine tree_skip rfl (by rfl) ?_; simp only [Act.put, List.setIfInBounds_toArray, List.set]) | (refine tree_quiet (v := ?_) rfl rfl (by rfl) ?_ ?_; rotate_left; (intro W hW; go_simp); (try with_reducible rfl); simp only [Act.put, List.setIfInBounds_toArray, List.set]))
            refine tree_store rfl rfl (by rfl) (fun K hK => ?_)
            refine wp_store_at 92 agg4 _ _ rfl rfl rfl hT.drew rfl (by rw [fA_size]; omega) rfl ?_
            refine hK _ _ ?_
            clear hK K C0 C1 C2 C3 D0 l0 l1 l2 l3 u0 u1 u2 u3 n0 n1 n2 n3
            refine tree_done ?_
            rw [splice_all _ _ (by rw [fA_size]; rfl), HY.out, HL.out]
            refine q_forget (fun W0 => KyIn w H key (fun j => if j < 4 * n then kw key j else 0#8) W0 ∧ Blk W0 T (fA 4 (twd key n)) 92) ⟨hI.drew.farRow hHT _, hT.drew.setRow _⟩ ?_
            clear hI hT HL
            rintro w7 ⟨hI, hT⟩
            go_wp2_with fail
            refine (rtimes_of (rc ((n - 1) / 4)) 2#8 2 rfl _).mono ?_
            rintro e w' ⟨rfl, rfl⟩
            go_wp2_with fail
            refine wp_forget (fun W0 => KyIn w H key (fun j => if j < 4 * n then kw key j else 0#8) W0 ∧ Blk W0 T (fA 4 (twd key n)) 92) ⟨hI, hT⟩ ?_
            clear hI hT
            rintro w6 ⟨hI, hT⟩
            go_loopg [10] 4 (Ky3 w H T n key)
            case atStart => exact ⟨0, by omega, rfl, hI, hT⟩
            case round =>
              clear hI hT
              obtain ⟨k, hf, rfl, hI, hT⟩ := hrel
              by_cases hk : k < 4
              · have tk : decide ((k : Int) < 4) = true := by simp; omega
                have hkI : (k : Int) < 4 := by omega
                have HF3 := Lib.hid hf
                clear hf
                obtain ⟨u, hu⟩ : ∃ u, u = n - 4 := ⟨_, rfl⟩
                have hu1 : IntKind.i64.wrap ((n : Int) - 4) = (u : Int) := by rw [IntWalk.i64_in _ (by omega)]; omega
                have huI : (u : Int) < 44 := by omega
                have C1 : ∀ W, Old wr.drew W → W.cell? ⟨H + 1 + 1 + 1, u * 4 + k, none⟩ = some (.int .u8 (B8 (kw key (u * 4 + k)))) := fun W h => (hI.ws.drew.old h).atF (by omega) (by rw [if_pos (by omega)])
                have C2 : ∀ W, Old wr.drew W → W.cell? ⟨T, k, none⟩ = some (.int .u8 (B8 (twd key n k))) := fun W h => (hT.drew.old h).atF hk rfl
                have hE : kw key (u * 4 + k) ^^^ twd key n k = kw key (n * 4 + k) := by rw [hu, Nat.mul_comm, ← kw_step key n k hn hk, Nat.mul_comm]
                have HE := Lib.hid hE
                clear hu hE
                go_wp2_with fail
                refine wp_region_treeR true Old Old.refl Old.trans (.step 0 (.step 1 (.step 2 (.step 3 (.step 4 (.step 5 (.step 6 (.step 7 (.step 8 (.step 9 (.step 10 (.step 11 (.step 12 (.step 13 (.step 14 .done))))))))))))))) (by kernel_rfl) (by kernel_rfl) (fun c a d v w h => by cases d <;> exact h) ?_
                repeat (first | (refine tree_skip rfl (by rfl) ?_; simp only [Act.put, List.setIfInBounds_toArray, List.set]) | (refine tree_quiet (v := ?_) rfl rfl (by rfl) ?_ ?_; rotate_left; (intro W hW; go_simp); (try with_reducible rfl); simp only [Act.put, List.setIfInBounds_toArray, List.set]))
                have hd := hI.ws.drew
                have r3 := hd.rule
                have f3 := hd.free
                have ck3 := fA_at (fun j => if j < 4 * n + k then kw key j else 0#8) (show n * 4 + k < 176 by omega)
                refine tree_store rfl rfl (by rfl) (fun K hK => ?_); go_wp2_with fail; refine tree_done ?_
                clear r3 f3 ck3
                go_wp2_with fail
                go_roundg (gk - 1)
                case rel =>
                  have hf := HF3.out
                  refine ⟨k + 1, by omega, by go_num, ?_, hT.drew.other _ _ (by show T ≠ H + 3; omega)⟩
                  rw [HE.out, Nat.mul_comm n 4]
                  exact (hI.drew.set (by omega) (kw key (4 * n + k))).ofF fun i _ => congrFun (step_fun (4 * n + k) (kw key) fun _ => 0#8) i
                case measure => have hf := HF3.out; omega
              · obtain rfl : k = 4 := by omega
                clear hf
                go_wp2_with fail
                go_roundg (g0 - 1)
                case rel =>
                  have hf := HF.out
                  exact ⟨n + 1, by omega, by omega, by go_num, by rw [rc_next n hn H4.out], hI⟩
                case measure => have hf := HF.out; omega
          · have t4 : ((n : Int) % 4 == 0) = false := by simp; omega
            have HM := Lib.hid hm
            have H4 := Lib.hid h4
            clear h4 hm
            have hlw : (fA 4 fun j => kw key (4 * m + j)) = fA 4 (twd key n) := fA_eq fun j _ => by rw [twd, if_neg H4.out, HM.out]
            have HLW := Lib.hid hlw
            clear hlw
            go_wp2_with (first | refine wpList_load_part rfl 92 agg4 _ rfl rfl hw HPT.out (fL_length _ _) ?_ | refine wpList_store_blk rfl 92 agg4 (.tmp 9) _ (cells := fA 4 fun j => kw key (4 * m + j)) rfl rfl rfl (Blk.new _ _ _) (fA_size _ _) rfl (fA_one _ _) ?_)
            rw [← hTT]
            refine wp_forget (fun W0 => KyIn w H key (fun j => if j < 4 * n then kw key j else 0#8) W0 ∧ Blk W0 T (fA 4 (twd key n)) 92) ⟨hI1.farRow hHT _, by rw [← HLW.out]; exact hT1.setRow _⟩ ?_
            clear hI1 hT1 hw HPT hTT HLW
            clear hI
            rintro w6 ⟨hI, hT⟩
            go_loopg [10] 4 (Ky3 w H T n key)
            case atStart => exact ⟨0, by omega, rfl, hI, hT⟩
            case round =>
              clear hI hT
              obtain ⟨k, hf, rfl, hI, hT⟩ := hrel
              by_cases hk : k < 4
              · have tk : decide ((k : Int) < 4) = true := by simp; omega
                have hkI : (k : Int) < 4 := by omega
                have HF3 := Lib.hid hf
                clear hf
                obtain ⟨u, hu⟩ : ∃ u, u = n - 4 := ⟨_, rfl⟩
                have hu1 : IntKind.i64.wrap ((n : Int) - 4) = (u : Int) := by rw [IntWalk.i64_in _ (by omega)]; omega
                have huI : (u : Int) < 44 := by omega
                have C1 : ∀ W, Old wr.drew W → W.cell? ⟨H + 1 + 1 + 1, u * 4 + k, none⟩ = some (.int .u8 (B8 (kw key (u * 4 + k)))) := fun W h => (hI.ws.drew.old h).atF (by omega) (by rw [if_pos (by omega)])
                have C2 : ∀ W, Old wr.drew W → W.cell? ⟨T, k, none⟩ = some (.int .u8 (B8 (twd key n k))) := fun W h => (hT.drew.old h).atF hk rfl
                have hE : kw key (u * 4 + k) ^^^ twd key n k = kw key (n * 4 + k) := by rw [hu, Nat.mul_comm, ← kw_step key n k hn hk, Nat.mul_comm]
                have HE := Lib.hid hE
                clear hu hE
                go_wp2_with fail
                refine wp_region_treeR true Old Old.refl Old.trans (.step 0 (.step 1 (.step 2 (.step 3 (.step 4 (.step 5 (.step 6 (.step 7 (.step 8 (.step 9 (.step 10 (.step 11 (.step 12 (.step 13 (.step 14 .done))))))))))))))) (by kernel_rfl) (by kernel_rfl) (fun c a d v w h => by cases d <;> exact h) ?_
                repeat (first | (refine tree_skip rfl (by rfl) ?_; simp only [Act.put, List.setIfInBounds_toArray, List.set]) | (refine tree_quiet (v := ?_) rfl rfl (by rfl) ?_ ?_; rotate_left; (intro W hW; go_simp); (try with_reducible rfl); simp only [Act.put, List.setIfInBounds_toArray, List.set]))
                have hd := hI.ws.drew
                have r3 := hd.rule
                have f3 := hd.free
                have ck3 := fA_at (fun j => if j < 4 * n + k then kw key j else 0#8) (show n * 4 + k < 176 by omega)
                refine tree_store rfl rfl (by rfl) (fun K hK => ?_); go_wp2_with fail; refine tree_done ?_
                clear r3 f3 ck3
                go_wp2_with fail
                go_roundg (gk - 1)
                case rel =>
                  have hf := HF3.out
                  refine ⟨k + 1, by omega, by go_num, ?_, hT.drew.other _ _ (by show T ≠ H + 3; omega)⟩
                  rw [HE.out, Nat.mul_comm n 4]
                  exact (hI.drew.set (by omega) (kw key (4 * n + k))).ofF fun i _ => congrFun (step_fun (4 * n + k) (kw key) fun _ => 0#8) i
                case measure => have hf := HF3.out; omega
              · obtain rfl : k = 4 := by omega
                clear hf
                go_wp2_with fail
                go_roundg (g0 - 1)
                case rel =>
                  have hf := HF.out
                  exact ⟨n + 1, by omega, by omega, by go_num, by rw [rc_stay n hn H4.out], hI⟩
                case measure => have hf := HF.out; omega
        · obtain rfl : n = 44 := by omega
          have tn : decide (((44 : Nat) : Int) < 44) = false := by simp
          clear hf
          have hz1 := HZ.out
          go_wp2_with fail
          clear hz1
          obtain ⟨O, hO⟩ : ∃ O, O = wr.heap.size := ⟨_, rfl⟩
          have hHO : H + 3 < O := by have := hI.ws.lt; omega
          refine wp_forget (fun W0 => KyIn w H key (kw key) W0 ∧ Blk W0 O (fA 176 fun _ => 0#8) 88) ⟨(hI.ofF (g := kw key) fun i hi => by rw [if_pos (by omega)]).old ((Below.refl _ _).alloc (Nat.le_refl _) _), by rw [hO]; exact Blk.new _ _ _⟩ ?_
          rw [← hO]
          clear hI hO
          rintro w8 ⟨hI, hT⟩
          go_loopg [12] 176 (Ky4 w H O key)
          case atStart => exact ⟨0, by omega, rfl, hI, by simpa using hT⟩
          case round =>
            clear hI hT
            obtain ⟨k, hf, rfl, hI, hT⟩ := hrel
            by_cases hk : k < 176
            · have tk : decide ((k : Int) < 176) = true := by simp; omega
              have HF := Lib.hid hf
              clear hf
              obtain ⟨p, hp⟩ : ∃ p, p = k / 16 := ⟨_, rfl⟩
              obtain ⟨q, hq⟩ : ∃ q, q = k % 16 := ⟨_, rfl⟩
              obtain ⟨p', hp'⟩ : ∃ p, p = k / 4 := ⟨_, rfl⟩
              obtain ⟨q', hq'⟩ : ∃ q, q = k % 4 := ⟨_, rfl⟩
              have e1 : IntKind.i64.wrap ((k : Int) / 16) = (p : Int) := by rw [IntWalk.i64_in _ (by omega)]; omega
              have e2 : (k : Int).tmod 16 = (q : Int) := by rw [Int.tmod_eq_emod_of_nonneg (by omega)]; omega
              have e3 : IntKind.i64.wrap ((k : Int) / 4) = (p' : Int) := by rw [IntWalk.i64_in _ (by omega)]; omega
              have e4 : (k : Int).tmod 4 = (q' : Int) := by rw [Int.tmod_eq_emod_of_nonneg (by omega)]; omega
              have i1 : (p : Int) < 11 := by omega
              have i2 : (q : Int) < 16 := by omega
              have i3 : (p' : Int) < 44 := by omega
              have i4 : (q' : Int) < 4 := by omega
              have HP := Lib.hid (show p * 16 + q = k by omega)
              have HP' := Lib.hid (show p' * 4 + q' = k by omega)
              clear hp hq hp' hq'
              have C1 : ∀ W, Old wr.drew W → W.cell? ⟨H + 1 + 1 + 1, p' * 4 + q', none⟩ = some (.int .u8 (B8 (kw key k))) := fun W h => (hI.ws.drew.old h).atF (by have := HP'.out; omega) (by rw [HP'.out])
              go_wp2_with fail
              refine wp_region_treeR true Old Old.refl Old.trans (.step 0 (.step 1 (.step 2 (.step 3 (.step 4 (.step 5 (.step 6 (.step 7 (.step 8 (.step 9 (.step 10 (.step 11 (.step 12 (.step 13 .done)))))))))))))) (by kernel_rfl) (by kernel_rfl) (fun c a d v w h => by cases d <;> exact h) ?_
              repeat (first | (refine tree_skip rfl (by rfl) ?_; simp only [Act.put, List.setIfInBounds_toArray, List.set]) | (refine tree_quiet (v := ?_) rfl rfl (by rfl) ?_ ?_; rotate_left; (intro W hW; go_simp); (try with_reducible rfl); simp only [Act.put, List.setIfInBounds_toArray, List.set]))
              have hd := hT.drew
              have r3 := hd.rule
              have f3 := hd.free
              have ck3 := fA_at (fun j => if j < k then kw key j else 0#8) (show p * 16 + q < 176 by have := HP.out; omega)
              refine tree_store rfl rfl (by rfl) (fun K hK => ?_); go_wp2_with fail; refine tree_done ?_
              clear r3 f3 ck3
              go_wp2_with fail
              go_roundg (gk - 1)
              case rel =>
                have hf := HF.out
                refine ⟨k + 1, by omega, by go_num, hI.drew.far hHO _ _, ?_⟩
                rw [HP.out]
                exact (hd.setF hk (kw key k)).ofF fun i _ => congrFun (step_fun k (kw key) fun _ => 0#8) i
              case measure => have hf := HF.out; omega
            · obtain rfl : k = 176 := by omega
              have tk : decide (((176 : Nat) : Int) < 176) = false := by simp
              clear hf
              have hT' := hT.ofF (t := kw key) fun i h => by rw [if_pos h]
              obtain ⟨z, hz, hZ⟩ := hI.out
              have hb := hI.below
              clear hT hI
              go_wp2_with (first | refine wpList_load_blk rfl 88 agg53 _ rfl rfl hT' (fA_size _ _) ?_ | refine wpList_store_blk rfl 88 agg53 (.tmp 4) _ (cells := fA 176 (kw key)) rfl rfl rfl hZ (fA_size _ _) hz (fA_one _ _) ?_)
              refine post_blk rfl agg53 rfl (hZ.setRow _) (fA_size _ _) rfl ⟨rfl, ?_⟩
              rw [HH.out] at hb ⊢
              exact below_setRow hb (by omega) _
end Go.Proofs.Ytiadhcipfgckoaa

