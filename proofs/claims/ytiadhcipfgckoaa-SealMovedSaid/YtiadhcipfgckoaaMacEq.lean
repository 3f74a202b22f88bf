/- Two arrays of bytes compared. -/
import Derived.Test.YtiadhcipfgckoaaShaLaws
import Derived.Laws.StructEq
namespace Go.Proofs.Ytiadhcipfgckoaa
open Go.RowKit

theorem run_equalIn_vA (d : Nat) (t e : TypeId) {P : Program} (n : Nat) (ht : P.underlying t = some (.array n e)) (he : P.underlying e = some (.int .u8)) (hsz : ∀ w, (sizeOf e).run P w = .ok 1 w)
    (s u : Nat → UInt8) (w : World) :
    (Op.equalIn (d + 2) t (.agg (vA n fun i => bv (s i))) (.agg (vA n fun i => bv (u i)))).run P w = .ok ((List.range n).all fun i => s i == u i) w := by
  rw [List.range_eq_range', Op.equalIn]
  simp only [Sem.run_bind, run_underlying ht, Result.andThen_ok, hsz, Std.Legacy.Range.forIn_eq_forIn_range', Std.Legacy.Range.size, Nat.sub_zero, Nat.add_sub_cancel, Nat.div_one]
  have hl : ∀ i ∈ List.range' 0 n 1, i < n := fun i hi => by simpa using (List.mem_range'_1.1 hi).2
  generalize List.range' 0 n 1 = l at hl ⊢
  induction l with
  | nil => simp
  | cons i l ih =>
    have hi : i < n := hl i (by simp)
    have px : (part e (vA n fun i => bv (s i)) (i * 1)).run P w = .ok (.int .u8 (U8 (s i))) w := by
      simp [part, isAgg, run_underlying he, vA_at _ hi, bv]
    have py : (part e (vA n fun i => bv (u i)) (i * 1)).run P w = .ok (.int .u8 (U8 (u i))) w := by
      simp [part, isAgg, run_underlying he, vA_at _ hi, bv]
    have pe : (Op.equalIn (d + 1) e (.int .u8 (U8 (s i))) (.int .u8 (U8 (u i)))).run P w = .ok (s i == u i) w := by
      rw [run_equalIn_int w d e .u8 .u8 _ _ he, U8_beq]
    simp only [List.forIn_cons, Sem.run_bind, px, py, pe, Result.andThen_ok, List.all_cons]
    cases hb : (s i == u i)
    · simp
    · simp only [Bool.not_true, Bool.false_eq_true, if_false, Sem.run_pure, Result.andThen_ok, Bool.true_and]
      exact ih fun j hj => hl j (by simp [hj])
theorem eqIn32 (f : Nat → UInt8) (W : World) : (Op.equalIn 10000 38 (.agg (vA 32 fun i => bv (f i))) (.agg (vA 32 fun i => bv (f i)))).run Try.prog W = .ok true W := by
  rw [run_equalIn_vA 9998 38 5 32 Try.underlying38 Try.underlying5 (sized_run u8Info) f f W]
  simp
theorem eq32 (f : Nat → UInt8) (W : World) : (binOp .eql 38 (.agg (vA 32 fun i => bv (f i))) (.agg (vA 32 fun i => bv (f i)))).run Try.prog W = .ok (.bool true) W := by
  rw [run_eql_struct, eqIn32]; rfl

end Go.Proofs.Ytiadhcipfgckoaa
