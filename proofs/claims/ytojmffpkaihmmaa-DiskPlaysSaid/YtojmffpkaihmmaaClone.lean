/- slices.Clone of bytes. -/
import Derived.Test.YtojmffpkaihmmaaRows
import Derived.Test.YtojmffpkaihmmaaBase
namespace Go.Proofs.Ytojmffpkaihmmaa
open Go.RowKit
theorem bytesT : RowType Try.prog 24 5 1 1 := RowType.mk (z := .int .u8 0) Try.underlying24 (by kernel_rfl) rfl (by omega)
theorem clone_any (a : Option Addr) (len cap : Nat) (l : List UInt8) (w : World) (hl : BytesAt w a l) (hlen : l.length = len) (hm : len ≤ 140737488351232) :
    Calls Try.prog 34 #[.slice a len cap] w fun e w' => ∃ a' c', e = .returned (.slice a' len c') ∧ Own w' w.heap.size 5 1 a' len c' (l.map bv) ∧ Below w.heap.size w w' := by
  have HL := Lib.hid hlen
  clear hlen
  have q : ∀ (w : World) (a : Option Addr) (n c n' c' : Nat), (binOp .eql 24 (.slice a n c) (.slice none n' c')).run Try.prog w = .ok (.bool a.isNone) w := fun w a n c n' c' => Lib.run_eql_slice_nil w _ _ a n c n' c' Try.underlying24
  cases a with
  | none =>
    have hl0 : l = [] := by
      refine List.eq_nil_of_length_eq_zero (Nat.eq_zero_of_not_pos fun h => ?_)
      obtain ⟨_, _, e, _⟩ := hl 0 (by simpa using h)
      cases e
    subst hl0
    have h0 : len = 0 := HL.out.symm
    go_enter Try.func34, Try.ntmps34
    go_wp2_with fail
    go_ret
    exact ⟨none, 0, by rw [h0]; rfl, by rw [h0]; exact Own.nil _ _ _ _, Below.refl _ _⟩
  | some x =>
    go_enter Try.func34, Try.ntmps34
    have hown : Own (w.alloc (.cells #[] 5)) w.heap.size 5 1 (some ⟨w.heap.size, 0, none⟩) 0 0 [] := Own.lit _ _ _ rfl rfl (Nat.le_refl _) (by unfold maxLen; omega)
    go_wp2_with (at_builtin; refine wpList_append_row rfl _ _ 24 rfl bytesT rfl hown rfl (hl.alloc _) (by rw [List.length_map, HL.out, Nat.mul_one]) (bv_one _) (by unfold maxLen; omega) (by omega) (by simp) ?_)
    intro a1 c1 w1 hown1 hg1
    go_wp2_with fail
    go_ret
    refine ⟨a1, c1, ?_, ?_, hown.grown ((Below.refl _ _).alloc (Nat.le_refl _) _) (Nat.le_refl _) hg1 (by simp)⟩
    · first | rfl | simp
    · simpa using hown1

end Go.Proofs.Ytojmffpkaihmmaa
