/- No hash does nothing: the walk of the law. -/
import Derived.Test.YtoingggcgaibpaaShaLaws
import Derived.Laws.StructEq
namespace Go.Proofs.Ytoingggcgaibpaa
open Go.RowKit

theorem run_equalIn_vA (d : Nat) (t e : TypeId) {P : Program} (n : Nat) (ht : P.underlying t = some (.array n e)) (he : P.underlying e = some (.int .u8)) (hsz : ∀ w, (sizeOf e).run P w = .ok 1 w)
    (s u : Nat → UInt8) (w : World) :
    (Op.equalIn (d + 2) t (.agg (vA n fun i => bv (s i))) (.agg (vA n fun i => bv (u i)))).run P w = .ok ((List.range n).all fun i => s i == u i) w := by
  rw [List.range_eq_range', Op.equalIn]
  simp only [Sem.run_bind, run_underlying ht, Result.andThen_ok, hsz, Std.Legacy.Range.forIn_eq_forIn_range', Std.Legacy.Range.size, Nat.sub_zero, Nat.add_sub_cancel, Nat.div_one]
  have hl : ∀ i ∈ List.range' 0 n 1, i < n := fun i hi => by simpa using (List.mem_range'_1.1 hi).2
  generalize List.range' 0 n 1 = l at hl ⊢
  induction l with
  | nil => simp
  | cons i l ih =>
    have hi : i < n := hl i (by simp)
    have px : (part e (vA n fun i => bv (s i)) (i * 1)).run P w = .ok (.int .u8 (U8 (s i))) w := by
      simp [part, isAgg, run_underlying he, vA_at _ hi, bv]
    have py : (part e (vA n fun i => bv (u i)) (i * 1)).run P w = .ok (.int .u8 (U8 (u i))) w := by
      simp [part, isAgg, run_underlying he, vA_at _ hi, bv]
    have pe : (Op.equalIn (d + 1) e (.int .u8 (U8 (s i))) (.int .u8 (U8 (u i)))).run P w = .ok (s i == u i) w := by
      rw [run_equalIn_int w d e .u8 .u8 _ _ he, U8_beq]
    simp only [List.forIn_cons, Sem.run_bind, px, py, pe, Result.andThen_ok, List.all_cons]
    cases hb : (s i == u i)
    · simp
    · simp only [Bool.not_true, Bool.false_eq_true, if_false, Sem.run_pure, Result.andThen_ok, Bool.true_and]
      exact ih fun j hj => hl j (by simp [hj])
theorem eqIn32 (f : Nat → UInt8) (W : World) : (Op.equalIn 10000 24 (.agg (vA 32 fun i => bv (f i))) (.agg (vA 32 fun i => bv (f i)))).run Try.prog W = .ok true W := by
  rw [run_equalIn_vA 9998 24 5 32 Try.underlying24 Try.underlying5 (sized_run u8Info) f f W]
  simp
theorem eq32 (f : Nat → UInt8) (W : World) : (binOp .eql 24 (.agg (vA 32 fun i => bv (f i))) (.agg (vA 32 fun i => bv (f i)))).run Try.prog W = .ok (.bool true) W := by
  rw [run_eql_struct, eqIn32]; rfl

theorem nil_reset (w : World) : Calls Try.prog 11 #[.pointer none] w fun e w' => e = .returned (.tuple #[]) ∧ w = w' := by
  go_enter Try.func11, Try.ntmps11
  go_wp2_with fail
  exact bodyPost_ret (v := .tuple #[]) (results_none rfl _ _ _) rfl ⟨rfl, rfl⟩
theorem nil_write (a : Option Addr) (n c : Nat) (w : World) : Calls Try.prog 10 #[.pointer none, .slice a n c] w fun e w' => e = .returned (.int .i64 1) ∧ w = w' := by
  go_enter Try.func10, Try.ntmps10
  go_wp2_with fail
  go_ret
  exact ⟨rfl, rfl⟩
theorem nil_copy (w : World) : Calls Try.prog 12 #[.pointer none] w fun e w' => e = .returned (.pointer none) ∧ w = w' := by
  go_enter Try.func12, Try.ntmps12
  go_wp2_with fail
  go_ret
  exact ⟨rfl, rfl⟩
set_option maxHeartbeats 400000 in
set_option maxRecDepth 40000 in
theorem nil_sum (w : World) : Calls Try.prog 13 #[.pointer none] w fun e w' => e = .returned (.agg (vA 32 fun _ => bv 0)) ∧ Below w.heap.size w w' := by
  go_enter Try.func13, Try.ntmps13
  go_upto_region 3 with (fail)
  refine wp_forget (fun W0 => Blk W0 w.heap.size (vA 32 fun _ => bv 0) 24 ∧ Blk W0 (w.heap.size + 1) (vA 32 fun _ => bv 0) 24 ∧ Below w.heap.size w W0) ⟨Blk.new2 _ _ _ _, Blk.new2' _ _ _ _, by (try unfold Kept); repeat (first | assumption | exact Below.refl _ _ | exact below_undrew (Below.refl _ _) | exact Below.mono (by assumption) (by first | (simp; done) | (simp; omega) | omega) | refine below_setRow ?_ (by first | (simp; done) | (simp; omega) | omega) _ | refine Below.setCell ?_ (by first | (simp; done) | (simp; omega) | omega) _ | refine Below.alloc ?_ (by first | (simp; done) | (simp; omega) | omega) _ | refine below_drewN ?_ _ | refine Below.drew ?_ | refine below_undrew ?_ | refine below_step ?_ (by assumption))⟩ ?_
  rintro w0 ⟨hR, hO, hb⟩
  go_wp2_with (first | refine wpList_load_blk rfl 24 agg32 _ rfl rfl hO (vA_size _ _) ?_ | refine wpList_store_blk rfl 24 agg32 (.tmp 2) _ (cells := vA 32 fun _ => bv 0) rfl rfl rfl hR (vA_size _ _) (vA_size _ _) (vA_one fun _ _ => rfl) ?_)
  refine post_blk rfl agg32 rfl (hR.setRow _) (vA_size _ _) rfl ⟨rfl, ?_⟩
  exact below_setRow hb (Nat.le_refl _) _
set_option maxHeartbeats 400000 in
set_option maxRecDepth 40000 in
theorem shaNil_any (a : Option Addr) (n c : Nat) (w : World) : Calls Try.prog 5 #[.slice a n c] w fun e w' => e = .returned (.bool true) ∧ Below w.heap.size w w' := by
  have heq : ∀ W, (Op.equalIn 10000 24 (.agg (vA 32 fun _ => bv 0)) (.agg #[.int .u8 0, .int .u8 0, .int .u8 0, .int .u8 0, .int .u8 0, .int .u8 0, .int .u8 0, .int .u8 0, .int .u8 0, .int .u8 0, .int .u8 0, .int .u8 0, .int .u8 0, .int .u8 0, .int .u8 0, .int .u8 0, .int .u8 0, .int .u8 0, .int .u8 0, .int .u8 0, .int .u8 0, .int .u8 0, .int .u8 0, .int .u8 0, .int .u8 0, .int .u8 0, .int .u8 0, .int .u8 0, .int .u8 0, .int .u8 0, .int .u8 0, .int .u8 0])).run Try.prog W = .ok true W := eqIn32 fun _ => 0
  go_enter Try.func5, Try.ntmps5
  go_wp2_with fail
  refine (nil_reset _).mono ?_
  rintro e w' ⟨rfl, rfl⟩
  go_wp2_with fail
  refine (nil_write a n c _).mono ?_
  rintro e w' ⟨rfl, rfl⟩
  go_wp2_with fail
  refine (nil_sum _).mono ?_
  rintro e w1 ⟨rfl, hb1⟩
  go_wp2_with fail
  refine (nil_copy _).mono ?_
  rintro e w' ⟨rfl, rfl⟩
  go_wp2_with fail
  refine (sha_wakes _).mono ?_
  rintro e w2 ⟨rfl, hb2⟩
  go_wp2_with fail
  go_ret
  exact ⟨rfl, below_step hb1 hb2⟩
end Go.Proofs.Ytoingggcgaibpaa
