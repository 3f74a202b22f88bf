/- A state's sum, the program's and the document's. -/
import Derived.Test.YtdokkhjgmhcpkaaImRB3
import Derived.Test.YtdokkhjgmhcpkaaImBytes
import Derived.Test.YtdokkhjgmhcpkaaImWhole
import Derived.Test.YtdokkhjgmhcpkaaShaLaws
import Derived.Test.YtdokkhjgmhcpkaaShaRefSum
namespace Go.Proofs.Ytdokkhjgmhcpkaa
open Go.RowKit
set_option linter.unusedVariables false
set_option linter.unusedSimpArgs false
set_option maxRecDepth 20000

set_option maxHeartbeats 2000000 in
theorem isum_any (w : World) (p : StateP) (h : StateH) (ha : StateAt w p h) (hx : FreeU w h.x.units) (hy : FreeU w h.y.units) (hz : (stateI p).length < 100000000) :
    Calls Try.prog 20 #[stateVal p h] w fun e w' => e = .returned (.agg (dgA (stateI p))) ∧ Below w.heap.size w w' := by
  rw [stateVal_cells]
  go_enter Try.func20, Try.ntmps20
  go_upto_region 1 with (fail)
  obtain ⟨S, h3⟩ : ∃ S, S = w.heap.size := ⟨_, rfl⟩
  obtain ⟨X, h4⟩ : ∃ X, X = w.heap.size + 1 := ⟨_, rfl⟩
  rw [← h4, ← h3]
  refine wp_forget (fun W => Blk W S (stateCells p h).toArray 29 ∧ Blk W X (vA 32 fun _ => .int .u8 0) 48 ∧ Below w.heap.size w W) ⟨by rw [h3]; exact Blk.new2 _ _ _ _, by rw [h4]; exact Blk.new2' _ _ _ _, by (try unfold Kept); repeat (first | assumption | exact Below.refl _ _ | exact below_undrew (Below.refl _ _) | exact Below.mono (by assumption) (by first | (simp; done) | (simp; omega) | omega) | refine below_setRow ?_ (by first | (simp; done) | (simp; omega) | omega) _ | refine Below.setCell ?_ (by first | (simp; done) | (simp; omega) | omega) _ | refine Below.alloc ?_ (by first | (simp; done) | (simp; omega) | omega) _ | refine below_drewN ?_ _ | refine Below.drew ?_ | refine below_undrew ?_ | refine below_step ?_ (by assumption))⟩ ?_
  rintro w1 ⟨hS, hX, hb1⟩
  have hge : w.heap.size ≤ X := by omega
  clear h3 h4
  have cb := bytes_w w1 p h (ha.old hb1) (hx.low ha.x.units.inB hb1) (hy.low ha.y.units.inB hb1) (by omega)
  rw [stateVal_cells] at cb
  go_wp2_with (refine wpList_load_blk rfl 29 stateT (.tmp 1) rfl rfl hS rfl ?_)
  refine cb.mono ?_
  clear cb
  rintro e w2 ⟨a2, c2, rfl, hown2, hb2⟩
  have hX2 := hX.old hb2
  have hb02 := below_step hb1 hb2
  have cs := sum_any (stateI p) a2 (stateI p).length c2 w2 hown2.row rfl (by omega)
  go_wp2_with fail
  refine cs.mono ?_
  clear cs
  rintro e w3 ⟨rfl, hb3⟩
  have hX3 := hX2.old hb3
  go_wp2_with (refine wpList_store_blk rfl 48 agg32 (.tmp 2) _ (cells := dgA (stateI p)) rfl rfl rfl hX3 (vA_size _ _) (vA_size _ _) (vA_one fun _ _ => rfl) ?_)
  exact post_blk rfl agg32 rfl (hX3.setRow _) (vA_size _ _) rfl ⟨rfl, below_setRow (below_step hb02 hb3) hge _⟩
set_option maxHeartbeats 2000000 in
theorem dsum_any (w : World) (p : StateP) (h : StateH) (ha : StateIn w w.heap.size p h) (hz : (stateI p).length + 5000 < 100000000) :
    Calls Try.prog 21 #[stateVal p h] w fun e w' => e = .returned (.agg (dgA (stateI p))) ∧ Below w.heap.size w w' := by
  rw [stateVal_cells]
  go_enter Try.func21, Try.ntmps21
  go_upto_region 1 with (fail)
  obtain ⟨S, h3⟩ : ∃ S, S = w.heap.size := ⟨_, rfl⟩
  obtain ⟨X, h4⟩ : ∃ X, X = w.heap.size + 1 := ⟨_, rfl⟩
  rw [← h4, ← h3]
  refine wp_forget (fun W => Blk W S (stateCells p h).toArray 29 ∧ Blk W X (vA 32 fun _ => .int .u8 0) 48 ∧ Below w.heap.size w W) ⟨by rw [h3]; exact Blk.new2 _ _ _ _, by rw [h4]; exact Blk.new2' _ _ _ _, by (try unfold Kept); repeat (first | assumption | exact Below.refl _ _ | exact below_undrew (Below.refl _ _) | exact Below.mono (by assumption) (by first | (simp; done) | (simp; omega) | omega) | refine below_setRow ?_ (by first | (simp; done) | (simp; omega) | omega) _ | refine Below.setCell ?_ (by first | (simp; done) | (simp; omega) | omega) _ | refine Below.alloc ?_ (by first | (simp; done) | (simp; omega) | omega) _ | refine below_drewN ?_ _ | refine Below.drew ?_ | refine below_undrew ?_ | refine below_step ?_ (by assumption))⟩ ?_
  rintro w1 ⟨hS, hX, hb1⟩
  have hge : w.heap.size ≤ X := by omega
  clear h3 h4
  have cb := stbytes_any w1 p h ((ha.low hb1).mono hb1.size) hz
  rw [stateVal_cells] at cb
  go_wp2_with (refine wpList_load_blk rfl 29 stateT (.tmp 1) rfl rfl hS rfl ?_)
  refine cb.mono ?_
  clear cb
  rintro e w2 ⟨a2, c2, rfl, hown2, hr2⟩
  have hb2 := hr2.1
  have hX2 := hX.old hb2
  have hb02 := below_step hb1 hb2
  have cs := rsum_any (stateI p) a2 c2 (stateI p).length w2 hown2.row rfl (by omega)
  go_wp2_with fail
  refine cs.mono ?_
  clear cs
  rintro e w3 ⟨rfl, hb3⟩
  have hX3 := hX2.old hb3
  go_wp2_with (refine wpList_store_blk rfl 48 agg32 (.tmp 2) _ (cells := dgA (stateI p)) rfl rfl rfl hX3 (vA_size _ _) (vA_size _ _) (vA_one fun _ _ => rfl) ?_)
  exact post_blk rfl agg32 rfl (hX3.setRow _) (vA_size _ _) rfl ⟨rfl, below_setRow (below_step hb02 hb3) hge _⟩
end Go.Proofs.Ytdokkhjgmhcpkaa
