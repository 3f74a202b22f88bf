/- The document's own block, asked of the program: the walk. -/
import Derived.Test.YtjkdgaehnachdaaAesOne
import Derived.Test.YtjkdgaehnachdaaAesWake
import Derived.Laws.StructEq
namespace Go.Proofs.Ytjkdgaehnachdaa
open Go.RowKit
attribute [local go_sem] bits_xor_B8 bits_and_B8 bits_or_B8 ofInt_B8

/-! ### Arrays of bytes compared -/
theorem u8Size (W : World) : (sizeOf 5).run Try.prog W = .ok 1 W := by
  have := u8Info
  cases hq : Try.prog.info? 5 with
  | none => simp [hq] at this
  | some i => simp [hq] at this; simp [sizeOf, typeInfo, hq, this]
theorem run_equalIn_fA (d : Nat) (t e : TypeId) {P : Program} (n : Nat) (ht : P.underlying t = some (.array n e)) (he : P.underlying e = some (.int .u8)) (hsz : ∀ w, (sizeOf e).run P w = .ok 1 w)
    (s u : Nat → BitVec 8) (w : World) :
    (Op.equalIn (d + 2) t (.agg (fA n s)) (.agg (fA n u))).run P w = .ok ((List.range n).all fun i => s i == u i) w := by
  rw [List.range_eq_range', Op.equalIn]
  simp only [Sem.run_bind, run_underlying ht, Result.andThen_ok, hsz, Std.Legacy.Range.forIn_eq_forIn_range', Std.Legacy.Range.size, Nat.sub_zero, Nat.add_sub_cancel, Nat.div_one]
  have hl : ∀ i ∈ List.range' 0 n 1, i < n := fun i hi => by simpa using (List.mem_range'_1.1 hi).2
  generalize List.range' 0 n 1 = l at hl ⊢
  induction l with
  | nil => simp
  | cons i l ih =>
    have hi : i < n := hl i (by simp)
    have px : (part e (fA n s) (i * 1)).run P w = .ok (.int .u8 (B8 (s i))) w := by
      simp [part, isAgg, run_underlying he, fA_at s hi]
    have py : (part e (fA n u) (i * 1)).run P w = .ok (.int .u8 (B8 (u i))) w := by
      simp [part, isAgg, run_underlying he, fA_at u hi]
    have pe : (Op.equalIn (d + 1) e (.int .u8 (B8 (s i))) (.int .u8 (B8 (u i)))).run P w = .ok (s i == u i) w := by
      rw [run_equalIn_int w d e .u8 .u8 _ _ he, B8_beq]
    simp only [List.forIn_cons, Sem.run_bind, px, py, pe, Result.andThen_ok, List.all_cons]
    cases hb : (s i == u i)
    · simp
    · simp only [Bool.not_true, Bool.false_eq_true, if_false, Sem.run_pure, Result.andThen_ok, Bool.true_and]
      exact ih fun j hj => hl j (by simp [hj])
theorem eq_fA (s : Nat → BitVec 8) (W : World) : (binOp .eql 27 (.agg (fA 16 s)) (.agg (fA 16 s))).run Try.prog W = .ok (.bool true) W := by
  rw [run_eql_struct, run_equalIn_fA 9998 27 5 16 Try.underlying27 Try.underlying5 u8Size s s W]
  simp

/-! ### What the document says of the box, of products and of one block -/
theorem box_of (n : Int) (x : BitVec 8) (m : Int) (h : n = B8 x) (hm : B8 (bx x) = m) (w : World) :
    Calls Try.prog 8 #[.int .u8 n] w fun e w' => e = .returned (.int .u8 m) ∧ w = w' := by
  subst h hm; exact box_any x w
theorem times_of (n m : Int) (x y : BitVec 8) (r : Int) (h : n = B8 x) (h2 : m = B8 y) (hr : B8 (tim x y) = r) (w : World) :
    Calls Try.prog 10 #[.int .u8 n, .int .u8 m] w fun e w' => e = .returned (.int .u8 r) ∧ w = w' := by
  subst h h2 hr; exact times_any x y w
theorem box0 : B8 (bx 0#8) = 99 := by decide +kernel
theorem box53 : B8 (bx 83#8) = 237 := by decide +kernel
theorem tim5783 : B8 (tim 87#8 131#8) = 193 := by decide +kernel
theorem wake_lit : (#[.int .u8 105, .int .u8 196, .int .u8 224, .int .u8 216, .int .u8 106, .int .u8 123, .int .u8 4, .int .u8 48, .int .u8 216, .int .u8 205, .int .u8 183, .int .u8 128, .int .u8 112, .int .u8 180, .int .u8 197, .int .u8 90] : Array Value) = fA 16 (enc wk wb) := by
  rw [wake_enc]; rfl
theorem zero16 : (#[.int .u8 0, .int .u8 0, .int .u8 0, .int .u8 0, .int .u8 0, .int .u8 0, .int .u8 0, .int .u8 0, .int .u8 0, .int .u8 0, .int .u8 0, .int .u8 0, .int .u8 0, .int .u8 0, .int .u8 0, .int .u8 0] : Array Value) = fA 16 fun _ => 0#8 := rfl

def WakeRel (w : World) (H f : Nat) (i : Value) (wr : World) : Prop :=
  ∃ k : Nat, f + k = 16 ∧ i = .int .i64 (k : Int) ∧ Blk wr H (fA 16 (fun j => if j < k then wk j else 0#8)) 27 ∧ Blk wr (H + 1) (fA 16 (fun j => if j < k then wb j else 0#8)) 27 ∧ wr.heap.size = H + 2 ∧ Below H w wr
set_option maxHeartbeats 1000000 in
set_option maxRecDepth 100000 in
theorem aes_wakes (w : World) :
    Calls Try.prog 12 #[] w fun e w' => e = .returned (.bool true) ∧ Below w.heap.size w w' := by
  go_enter Try.func12, Try.ntmps12
  go_wp2_with fail
  refine wp_forget (fun W0 => Blk W0 w.heap.size (fA 16 fun _ => 0#8) 27 ∧ Blk W0 (w.heap.size + 1) (fA 16 fun _ => 0#8) 27 ∧ W0.heap.size = w.heap.size + 2 ∧ Below w.heap.size w W0) ⟨Blk.new2 _ _ _ _, Blk.new2' _ _ _ _, by simp, by (try unfold Kept); repeat (first | assumption | exact Below.refl _ _ | exact below_undrew (Below.refl _ _) | exact Below.mono (by assumption) (by first | (simp; done) | (simp; omega) | omega) | refine below_setRow ?_ (by first | (simp; done) | (simp; omega) | omega) _ | refine Below.setCell ?_ (by first | (simp; done) | (simp; omega) | omega) _ | refine Below.alloc ?_ (by first | (simp; done) | (simp; omega) | omega) _ | refine below_drewN ?_ _ | refine Below.drew ?_ | refine below_undrew ?_ | refine below_step ?_ (by assumption))⟩ ?_
  rintro w0 ⟨hA, hB, hs, hb⟩
  obtain ⟨H, hH⟩ : ∃ H, H = w.heap.size := ⟨_, rfl⟩
  rw [← hH] at hA hB hb hs ⊢
  have HH := Lib.hid hH
  clear hH
  have HS := Lib.hid hs
  clear hs
  go_loopg [5] 16 (WakeRel w H)
  case atStart => exact ⟨0, by omega, rfl, by simpa using hA, by simpa using hB, HS.out, hb⟩
  case round =>
    clear hA hB hb HS
    obtain ⟨k, hf, rfl, hA, hB, hs, hb⟩ := hrel
    have HF := Lib.hid hf
    clear hf
    by_cases hlt : k < 16
    · have tk : decide ((k : Int) < 16) = true := by simp; omega
      have hkI : (k : Int) < 16 := by omega
      have E1 : Value.int .u8 (k : Int) = .int .u8 (B8 (wk k)) := by
        congr 1
        simp only [wk, B8, BitVec.toNat_ofNat]; omega
      have E2 : Value.int .u8 (17 * (k : Int)) = .int .u8 (B8 (wb k)) := by
        congr 1
        simp only [wb, B8, BitVec.toNat_ofNat]; omega
      have H1 := Lib.hid E1
      have H2 := Lib.hid E2
      have HS := Lib.hid hs
      clear E1 E2 hs
      have r1 := hA.rule
      have f1 := hA.free
      have c1 := fA_at (fun j => if j < k then wk j else 0#8) hlt
      have r2 := hB.rule
      have f2 := hB.free
      have c2 := fA_at (fun j => if j < k then wb j else 0#8) hlt
      go_wp2_with fail
      clear r1 f1 c1 r2 f2 c2
      go_roundg (gk - 1)
      case rel =>
        have hf := HF.out
        refine ⟨k + 1, by omega, by go_num, ?_, ?_, by simpa using HS.out, (hb.setCell (by simp) _).setCell (by simp) _⟩
        · rw [H1.out]
          exact ((hA.setF hlt (wk k)).ofF fun i _ => congrFun (step_fun k wk fun _ => 0#8) i).other _ _ (by simp)
        · rw [H2.out]
          exact ((hB.other _ _ (by simp)).setF hlt (wb k)).ofF fun i _ => congrFun (step_fun k wb fun _ => 0#8) i
      case measure => have hf := HF.out; omega
    · have hf := HF.out
      obtain rfl : k = 16 := by omega
      have tk : decide (((16 : Nat) : Int) < 16) = false := by simp
      clear hf
      replace hA := hA.ofF (t := wk) fun i h => by simp [h]
      replace hB := hB.ofF (t := wb) fun i h => by simp [h]
      go_wp2_with (refine wpList_store_blk rfl 27 agg16 (.tmp 4) _ rfl rfl rfl (Blk.new _ _ _) rfl rfl rfl ?_)
      rw [wake_lit]
      refine wp_forget (fun W0 => Blk W0 H (fA 16 wk) 27 ∧ Blk W0 (H + 1) (fA 16 wb) 27 ∧ Blk W0 (H + 2) (fA 16 (enc wk wb)) 27 ∧ Below H w W0) ⟨hA.alloc _, hB.alloc _, ?_, hb.alloc (by omega) _⟩ ?_
      · rw [← hs]; exact Blk.new _ _ _
      clear hA hB hs hb
      rintro w1 ⟨hA, hB, hC, hb⟩
      refine wp_region_old (0 :: 1 :: 3 :: 2 :: 4 :: 5 :: 6 :: 7 :: 8 :: 9 :: 10 :: 11 :: 12 :: 13 :: 14 :: 15 :: 16 :: 17 :: []) (by kernel_rfl) (by kernel_rfl) (fun c a d v w h => by cases d <;> exact h) ?_
      refine lex_quiet (v := .agg (fA 16 wk)) rfl rfl (by rfl) (fun W hW => exec_load_as 27 agg16 _ rfl rfl rfl (hA.drew.old hW).cells (fL_length _ _)) ?_
      simp only [Act.put, List.setIfInBounds_toArray, List.set]
      refine lex_quiet (v := .agg (fA 16 wb)) rfl rfl (by rfl) (fun W hW => exec_load_as 27 agg16 _ rfl rfl rfl (hB.drew.old hW).cells (fL_length _ _)) ?_
      simp only [Act.put, List.setIfInBounds_toArray, List.set]
      refine lex_quiet (v := .agg (fA 16 (enc wk wb))) rfl rfl (by rfl) (fun W hW => exec_load_as 27 agg16 _ rfl rfl rfl (hC.drew.old hW).cells (fL_length _ _)) ?_
      simp only [Act.put, List.setIfInBounds_toArray, List.set]
      refine lex_loud rfl rfl (by rfl) (fun K hK => ?_); go_wp2_with fail
      refine (aes_block wk wb _).mono ?_
      rintro e w2 ⟨rfl, hb2⟩
      go_wp2_with fail
      refine hK _ _ hb2 ?_
      clear hK K
      refine lex_quiet (v := .bool true) rfl rfl (by rfl) (fun W hW => exec_cmp .eql 27 (.tmp 21) (.tmp 22) rfl rfl rfl (by kernel_rfl) (eq_fA _ W)) ?_
      simp only [Act.put, List.setIfInBounds_toArray, List.set]
      repeat (first | (refine lex_skip rfl (by rfl) ?_; simp only [Act.put, List.setIfInBounds_toArray, List.set]) | (refine lex_quiet (v := ?_) rfl rfl (by rfl) ?_ ?_; rotate_left; (intro W hW; go_simp); (try with_reducible rfl); simp only [Act.put, List.setIfInBounds_toArray, List.set]))
      refine lex_loud rfl rfl (by rfl) (fun K hK => ?_); go_wp2_with fail
      refine (box_of 0 0#8 99 rfl box0 _).mono ?_
      rintro e w' ⟨rfl, rfl⟩
      go_wp2_with fail
      refine hK _ _ (Old.refl _) ?_
      clear hK K
      repeat (first | (refine lex_skip rfl (by rfl) ?_; simp only [Act.put, List.setIfInBounds_toArray, List.set]) | (refine lex_quiet (v := ?_) rfl rfl (by rfl) ?_ ?_; rotate_left; (intro W hW; go_simp); (try with_reducible rfl); simp only [Act.put, List.setIfInBounds_toArray, List.set]))
      refine lex_loud rfl rfl (by rfl) (fun K hK => ?_); go_wp2_with fail
      refine (box_of 83 83#8 237 rfl box53 _).mono ?_
      rintro e w' ⟨rfl, rfl⟩
      go_wp2_with fail
      refine hK _ _ (Old.refl _) ?_
      clear hK K
      repeat (first | (refine lex_skip rfl (by rfl) ?_; simp only [Act.put, List.setIfInBounds_toArray, List.set]) | (refine lex_quiet (v := ?_) rfl rfl (by rfl) ?_ ?_; rotate_left; (intro W hW; go_simp); (try with_reducible rfl); simp only [Act.put, List.setIfInBounds_toArray, List.set]))
      refine lex_loud rfl rfl (by rfl) (fun K hK => ?_); go_wp2_with fail
      refine (times_of 87 131 87#8 131#8 193 rfl rfl tim5783 _).mono ?_
      rintro e w' ⟨rfl, rfl⟩
      go_wp2_with fail
      refine hK _ _ (Old.refl _) ?_
      clear hK K
      repeat (first | (refine lex_skip rfl (by rfl) ?_; simp only [Act.put, List.setIfInBounds_toArray, List.set]) | (refine lex_quiet (v := ?_) rfl rfl (by rfl) ?_ ?_; rotate_left; (intro W hW; go_simp); (try with_reducible rfl); simp only [Act.put, List.setIfInBounds_toArray, List.set]))
      refine lex_nil ?_
      go_wp2_with fail
      go_ret
      rw [HH.out] at hb
      exact ⟨rfl, below_step (below_step hb (Below.refl _ _).drew) hb2⟩
end Go.Proofs.Ytjkdgaehnachdaa
