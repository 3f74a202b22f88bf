/- The walks through the reference's own steps: columns mixed. -/
import Derived.Test.YtjkdgaehnachdaaAesRef
namespace Go.Proofs.Ytjkdgaehnachdaa
open Go.RowKit
attribute [local go_sem] bits_xor_B8 bits_and_B8 bits_or_B8 ofInt_B8

/-! ### Columns mixed -/
/-- Out of the first m bytes done. -/
def MixI (w : World) (H n : Nat) (m s : Nat → BitVec 8) (wr : World) : Prop :=
  Blk wr H (fA 16 s) 27 ∧ Blk wr (H + 1) (fA 4 m) 49 ∧ (∃ z : Array Value, z.size = 16 ∧ Blk wr (H + 2) z 27) ∧ Blk wr (H + 3) (fA 16 (fun j => if j < n then mxs m s j 4 else 0#8)) 27 ∧ Below H w wr
def Mix1 (w : World) (H : Nat) (m s : Nat → BitVec 8) (f : Nat) (i : Value) (wr : World) : Prop :=
  ∃ c : Nat, f + c = 4 ∧ i = .int .i64 (c : Int) ∧ MixI w H (4 * c) m s wr
def Mix2 (w : World) (H c : Nat) (m s : Nat → BitVec 8) (f : Nat) (i : Value) (wr : World) : Prop :=
  ∃ r : Nat, f + r = 4 ∧ i = .int .i64 (r : Int) ∧ MixI w H (4 * c + r) m s wr
def Mix3 (w : World) (H c r : Nat) (m s : Nat → BitVec 8) (f : Nat) (i x : Value) (wr : World) : Prop :=
  ∃ k : Nat, f + k = 4 ∧ i = .int .i64 (k : Int) ∧ x = .int .u8 (B8 (mxs m s (4 * c + r) k)) ∧ MixI w H (4 * c + r) m s wr
theorem MixI.keep {w : World} {H n : Nat} {m s : Nat → BitVec 8} {wr : World} (h : MixI w H n m s wr) : MixI w H n m s wr.drew := h.imp id (fun h => h.imp id (fun h => h.imp id (fun h => h.imp id fun h => h.drew)))
theorem mix_ix (k r d : Nat) (hk : k < 4) (hr : r < 4) (hd : d = (k + 4 - r) % 4) : (IntKind.i64.wrap (IntKind.i64.wrap ((k : Int) - (r : Int)) + 4)).tmod 4 = (d : Int) := by
  rw [IntWalk.i64_in ((k : Int) - (r : Int)) (by omega), IntWalk.i64_in _ (by omega), Int.tmod_eq_emod_of_nonneg (by omega)]
  omega
set_option maxHeartbeats 1000000 in
set_option maxRecDepth 40000 in
theorem rmix_any (m s : Nat → BitVec 8) (w : World) :
    Calls Try.prog 31 #[.agg (fA 16 s), .agg (fA 4 m)] w fun e w' => e = .returned (.agg (fA 16 (mx m s))) ∧ Below w.heap.size w w' := by
  go_enter Try.func31, Try.ntmps31
  go_wp2_with fail
  refine wp_forget (fun W0 => MixI w w.heap.size 0 m s W0) ⟨(Blk.new3 _ _ _ _ _).alloc _, (Blk.new3' _ _ _ _ _).alloc _, ⟨fA 16 fun _ => 0#8, fA_size _ _, (Blk.new3'' w (fA 16 fun _ => 0#8) _ _ _).alloc _⟩, ?_, by (try unfold Kept); repeat (first | assumption | exact Below.refl _ _ | exact below_undrew (Below.refl _ _) | exact Below.mono (by assumption) (by first | (simp; done) | (simp; omega) | omega) | refine below_setRow ?_ (by first | (simp; done) | (simp; omega) | omega) _ | refine Below.setCell ?_ (by first | (simp; done) | (simp; omega) | omega) _ | refine Below.alloc ?_ (by first | (simp; done) | (simp; omega) | omega) _ | refine below_drewN ?_ _ | refine Below.drew ?_ | refine below_undrew ?_ | refine below_step ?_ (by assumption))⟩ ?_
  · have := Blk.new (((w.alloc (.cells (fA 16 s) 27)).alloc (.cells (fA 4 m) 49)).alloc (.cells (fA 16 fun _ => 0#8) 27)) (fA 16 fun _ => 0#8) 27
    simp at this
    exact this.ofF fun i _ => by simp
  rintro w0 hI
  obtain ⟨H, hH⟩ : ∃ H, H = w.heap.size := ⟨_, rfl⟩
  rw [← hH] at hI ⊢
  have HH := Lib.hid hH
  clear hH
  go_loopg [6] 4 (Mix1 w H m s)
  case atStart => exact ⟨0, by omega, rfl, hI⟩
  case round =>
    clear hI
    obtain ⟨c, hf, rfl, hI⟩ := hrel
    by_cases hc : c < 4
    · have tc : decide ((c : Int) < 4) = true := by simp; omega
      have HF := Lib.hid hf
      clear hf
      obtain ⟨g0, rfl⟩ : ∃ g : Nat, g = gk := ⟨_, rfl⟩
      go_wp2_with fail
      go_loopg [7, 8, 9] 4 (fun f i _ _ wr => Mix2 w H c m s f i wr)
      case atStart => exact ⟨0, by omega, rfl, hI⟩
      case round =>
        clear hI
        obtain ⟨r, hf, rfl, hI⟩ := hrel
        by_cases hr : r < 4
        · have tr : decide ((r : Int) < 4) = true := by simp; omega
          have HF2 := Lib.hid hf
          clear hf
          obtain ⟨g1, rfl⟩ : ∃ g : Nat, g = gk := ⟨_, rfl⟩
          go_wp2_with fail
          go_loopg [9, 8] 4 (Mix3 w H c r m s)
          case atStart => exact ⟨0, by omega, rfl, rfl, hI⟩
          case round =>
            clear hI
            obtain ⟨k, hf, rfl, rfl, hI⟩ := hrel
            by_cases hk : k < 4
            · have tk : decide ((k : Int) < 4) = true := by simp; omega
              have HF3 := Lib.hid hf
              clear hf
              obtain ⟨hA, hM, ⟨z, hz, hZ⟩, hO, hb⟩ := hI
              obtain ⟨d, hd⟩ : ∃ d, d = (k + 4 - r) % 4 := ⟨_, rfl⟩
              have hd4 : d < 4 := by omega
              have hx1 := mix_ix k r d hk hr hd
              obtain ⟨p, hp⟩ : ∃ p, p = 4 * c := ⟨_, rfl⟩
              obtain ⟨q, hq⟩ : ∃ q, q = p + k := ⟨_, rfl⟩
              have hx2 : IntKind.i64.wrap (4 * (c : Int)) = (p : Int) := by rw [IntWalk.i64_in _ (by omega)]; omega
              have hx3 : IntKind.i64.wrap ((p : Int) + (k : Int)) = (q : Int) := by rw [IntWalk.i64_in _ (by omega)]; omega
              have hd4' : (d : Int) < 4 := by omega
              have hck : (q : Int) < 16 := by omega
              have C1 : ∀ W, Old wr.drew W → W.cell? ⟨H + 1, d, none⟩ = some (.int .u8 (B8 (m d))) := fun W h => (hM.drew.old h).atF hd4 rfl
              have C2 : ∀ W, Old wr.drew W → W.cell? ⟨H, q, none⟩ = some (.int .u8 (B8 (s q))) := fun W h => (hA.drew.old h).atF (by omega) rfl
              have HD := Lib.hid hd
              have HP := Lib.hid hp
              have HQ := Lib.hid hq
              clear hd hp hq
              go_wp2_with fail
              refine wp_region_old (0 :: 1 :: 2 :: 3 :: 4 :: 5 :: 6 :: 7 :: 8 :: 9 :: 10 :: 11 :: 12 :: 13 :: 14 :: 15 :: 16 :: []) (by kernel_rfl) (by kernel_rfl) (fun c a d v w h => by cases d <;> exact h) ?_
              repeat (first | (refine lex_skip rfl (by rfl) ?_; simp only [Act.put, List.setIfInBounds_toArray, List.set]) | (refine lex_quiet (v := ?_) rfl rfl (by rfl) ?_ ?_; rotate_left; (intro W hW; go_simp); (try with_reducible rfl); simp only [Act.put, List.setIfInBounds_toArray, List.set]))
              refine lex_loud rfl rfl (by rfl) (fun K hK => ?_); go_wp2_with fail
              refine (rtimes_any (m d) (s q) _).mono ?_
              rintro e w' ⟨rfl, rfl⟩
              go_wp2_with fail
              refine hK _ _ (Old.refl _) ?_
              clear hK K
              repeat (first | (refine lex_skip rfl (by rfl) ?_; simp only [Act.put, List.setIfInBounds_toArray, List.set]) | (refine lex_quiet (v := ?_) rfl rfl (by rfl) ?_ ?_; rotate_left; (intro W hW; go_simp); (try with_reducible rfl); simp only [Act.put, List.setIfInBounds_toArray, List.set]))
              refine lex_nil ?_
              go_wp2_with fail
              go_roundg (gk - 1)
              case rel =>
                have hf := HF3.out
                refine ⟨k + 1, by omega, by go_num, ?_, hA.drew, hM.drew, ⟨z, hz, hZ.drew⟩, hO.drew, hb.drew⟩
                rw [mxs, show (4 * c + r) % 4 = r by omega, show (4 * c + r) / 4 * 4 = 4 * c by omega, ← HD.out, ← HP.out, ← HQ.out]
              case measure => have hf := HF3.out; omega
            · obtain rfl : k = 4 := by omega
              clear hf
              obtain ⟨hA, hM, ⟨z, hz, hZ⟩, hO, hb⟩ := hI
              have r3 := hO.rule
              have f3 := hO.free
              have ck3 := fA_at (fun j => if j < 4 * c + r then mxs m s j 4 else 0#8) (show 4 * c + r < 16 by omega)
              go_wp2_with fail
              clear r3 f3 ck3
              go_roundg (g1 - 1)
              case rel =>
                have hf := HF2.out
                refine ⟨r + 1, by omega, by go_num, hA.other _ _ (by first | (simp; done) | (simp; omega) | omega), hM.other _ _ (by first | (simp; done) | (simp; omega) | omega), ⟨z, hz, hZ.other _ _ (by first | (simp; done) | (simp; omega) | omega)⟩, ?_, hb.setCell (by first | (simp; done) | (simp; omega) | omega) _⟩
                exact (hO.setF (by omega) (mxs m s (4 * c + r) 4)).ofF fun i _ => congrFun (step_fun (4 * c + r) (fun j => mxs m s j 4) fun _ => 0#8) i
              case measure => have hf := HF2.out; omega
        · obtain rfl : r = 4 := by omega
          clear hf
          go_wp2_with fail
          go_roundg (g0 - 1)
          case rel => exact ⟨c + 1, by have := HF.out; omega, by go_num, hI⟩
          case measure => have hf := HF.out; omega
    · obtain rfl : c = 4 := by omega
      clear hf
      obtain ⟨hA, hM, ⟨z, hz, hZ⟩, hO, hb⟩ := hI
      have e : fA 16 (fun j => if j < 4 * 4 then mxs m s j 4 else 0#8) = fA 16 (mx m s) := fA_eq fun i h => by rw [mx, tb_at _ h, if_pos (by omega)]
      rw [e] at hO
      clear e
      go_wp2_with (first | refine wpList_load_blk rfl 27 agg16 _ rfl rfl hO (fA_size _ _) ?_ | refine wpList_store_blk rfl 27 agg16 (.tmp 4) _ (cells := fA 16 (mx m s)) rfl rfl rfl hZ (fA_size _ _) hz (fA_one _ _) ?_)
      refine post_blk rfl agg16 rfl (hZ.setRow _) (fA_size _ _) rfl ⟨rfl, ?_⟩
      rw [HH.out] at hb ⊢
      exact below_setRow hb (by omega) _
end Go.Proofs.Ytjkdgaehnachdaa
