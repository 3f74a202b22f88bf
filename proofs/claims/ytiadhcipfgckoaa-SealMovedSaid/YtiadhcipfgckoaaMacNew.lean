/- The walk through a keyed sum begun. -/
import Derived.Test.YtiadhcipfgckoaaMac
namespace Go.Proofs.Ytiadhcipfgckoaa
open Go.RowKit

def mcs (hi ho : Nat) : Array Value := #[.pointer (some ⟨hi, 0, none⟩), .pointer (some ⟨ho, 0, none⟩)]
/-- The keyed sum at block M has been fed with l, under the key k. -/
structure MacAt (w : World) (B M : Nat) (k l : List UInt8) (hi ho : Nat) (a : Option Addr) (n c : Nat) (a2 : Option Addr) (n2 c2 : Nat) : Prop where
  mac : Blk w M (mcs hi ho) 84
  inn : HashAt w B hi (hin k l) a n c
  out : HashAt w B ho (padl (bkey k) 92) a2 n2 c2
  ne : hi ≠ ho
  row : rowB a c = none ∨ rowB a c ≠ rowB a2 c2
  leM : B ≤ M
  leI : B ≤ hi
  leO : B ≤ ho
def MacNewPost (w : World) (k : List UInt8) (e : Ending) (w' : World) : Prop :=
  ∃ M hi ho a n c a2 n2 c2, e = .returned (.pointer (some ⟨M, 0, none⟩)) ∧ MacAt w' w.heap.size M k [] hi ho a n c a2 n2 c2 ∧ Below w.heap.size w w'
theorem aggMac : AggT Try.prog 84 2 := ⟨⟨_, Try.underlying84, rfl⟩, by kernel_rfl⟩
structure MnI (w : World) (H M hi ho kb : Nat) (k l : List UInt8) (a : Option Addr) (n c : Nat) (wr : World) : Prop where
  mac : Blk wr M (mcs hi ho) 84
  inn : HashAt wr H hi l a n c
  out : HashAt wr H ho [] none 0 0
  key : Blk wr kb (vA 64 fun i => bv (bkey k i)) 59
  below : Below H w wr
/-- A hash at another block stays as it is. -/
theorem HashAt.fr {w w' : World} {B g g2 : Nat} {l : List UInt8} {a : Option Addr} {n c : Nat} {row : Option Nat} (h : HashAt w B g l a n c) (hfr : HsFr w w' g2 row) (hne : g ≠ g2) {cs : Array Value} (hG : Blk w g2 cs 109)
    (hr : (∀ b, row = some b → rowB a c ≠ some b ∧ g ≠ b) ∨ row = none) : HashAt w' B g l a n c := by
  refine ⟨hfr.blk h.hash hne ?_, h.row.keep fun r hrr => ?_, h.lt⟩
  · intro e
    rcases hr with hr | hr
    · exact (hr g e).2 rfl
    · rw [hr] at e; cases e
  · obtain ⟨_, hlt, cur, hcur⟩ := h.row.lt hrr
    refine hfr.block r hlt (Blk.ne hcur hG (by decide)) fun e => ?_
    rcases hr with hr | hr
    · exact (hr r e).1 hrr
    · rw [hr] at e; cases e
theorem HsFr.but {w w' : World} {g : Nat} (h : HsFr w w' g none) : But g w w' := ⟨h.size, fun b hb hne => h.block b hb hne (by simp)⟩
set_option maxHeartbeats 1000000 in
set_option maxRecDepth 100000 in
theorem mnew_any (k : List UInt8) (a : Option Addr) (len cap : Nat) (w : World) (hm : BytesAt w a k) (hl : k.length = len) (hmax : len < 140737488353000) :
    Calls Try.prog 32 #[.slice a len cap] w (MacNewPost w k) := by
  obtain ⟨H, hH⟩ : ∃ H, H = w.heap.size := ⟨_, rfl⟩
  have HH := Lib.hid hH
  have HL := Lib.hid hl
  clear hl hH
  go_enter Try.func32, Try.ntmps32
  go_wp2_with fail
  refine (new_any _).mono ?_
  rintro e w1 ⟨hi, rfl, hg1, hB1, hb1⟩
  go_wp2_with fail
  refine (new_any _).mono ?_
  rintro e w2 ⟨ho, rfl, hg2, hB2, hb2⟩
  go_upto_region 2 with fail
  have hM0 := Blk.new w2 (mcs hi ho) 84
  obtain ⟨M, hM⟩ : ∃ M, M = w2.heap.size := ⟨_, rfl⟩
  rw [← hM] at hM0 ⊢
  have hs1 := hb1.size
  have hs2 := hb2.size
  have hi1 := hB1.lt
  have ho1 := hB2.lt
  refine wp_forget (fun W0 => Blk W0 M (mcs hi ho) 84 ∧ HashAt W0 H hi [] none 0 0 ∧ HashAt W0 H ho [] none 0 0 ∧ BytesAt W0 a k ∧ Below H w W0) ⟨hM0, HashAt.nil ((hB1.old hb2).alloc _) H, HashAt.nil (hB2.alloc _) H, ((hm.below hb1).below hb2).alloc _, by rw [HH.out]; exact (below_step hb1 hb2).alloc (by omega) _⟩ ?_
  have hHi : H ≤ hi := by rw [HH.out]; exact hg1
  have hio : hi < ho := by omega
  have hoM : ho < M := by omega
  clear hM0 hM hs1 hs2 hi1 ho1 hB1 hB2 hb1 hb2 hg1 hg2 hm
  rintro w3 ⟨hM, hI, hO, hm, hb⟩
  go_wp2_with fail
  refine (mblock_any k a len cap _ hm HL.out hmax).mono ?_
  rintro e w4 ⟨rfl, hb4⟩
  have hMl := hM.lt
  have hb04 := hb.trans (hb4.mono (by omega))
  have hM4 := hM.old hb4
  have hI4 := hI.old hb4
  have hO4 := hO.old hb4
  clear hM hI hO hm hb
  go_upto_region 3 with (refine wpList_store_blk rfl 59 agg64b (.tmp 4) _ (cells := vA 64 fun i => bv (bkey k i)) rfl rfl rfl (Blk.new _ _ _) (vA_size _ _) rfl (vA_one fun _ _ => rfl) ?_)
  obtain ⟨kb, hkb⟩ : ∃ K, K = w4.heap.size := ⟨_, rfl⟩
  have hMk : M < kb := by have := hM4.lt; omega
  have hK0 := Blk.new w4 (vA 64 fun _ => .int .u8 0) 59
  rw [← hkb] at hK0 ⊢
  refine wp_forget (fun W0 => MnI w H M hi ho kb k [] none 0 0 W0) ⟨(hM4.alloc _).setRow_other _ _ (by omega), (hI4.alloc _).setRow hK0 (by decide) (by decide) _, (hO4.alloc _).setRow hK0 (by decide) (by decide) _, hK0.setRow _, below_setRow (hb04.alloc (by omega) _) (by omega) _⟩ ?_
  clear hMl hb04 hM4 hI4 hO4 hK0 hkb hb4
  rintro w5 hI
  have C0 : ∀ W, But hi w5.drew W → W.cell? ⟨M, 0, none⟩ = some (.pointer (some ⟨hi, 0, none⟩)) := fun W hW => (hI.mac.drew.but hW (by omega)).cell rfl
  refine wp_region_treeB hi (.step 0 (.step 1 (.step 2 (.step 3 (.step 4 (.step 5 (.step 6 (.step 7 .done)))))))) (by kernel_rfl) (by kernel_rfl) (fun c a d v w h => by cases d <;> exact h) ?_
  repeat (first | (refine tree_skip rfl (by rfl) ?_; simp only [Act.put, List.setIfInBounds_toArray, List.set]) | (refine tree_quiet (v := ?_) rfl rfl (by rfl) ?_ ?_; rotate_left; (intro W hW; go_simp); (try with_reducible rfl); simp only [Act.put, List.setIfInBounds_toArray, List.set]))
  refine tree_quiet (v := .agg (vA 64 fun i => bv (bkey k i))) rfl rfl (by rfl) (fun W hW => exec_load_as 59 agg64b _ rfl rfl rfl (hI.key.drew.but hW (by omega)).cells (vL_length _ _)) ?_
  simp only [Act.put, List.setIfInBounds_toArray, List.set]
  refine tree_loud rfl rfl (by rfl) (fun K hK => ?_); go_wp2_with fail
  refine (mwith_any (bkey k) 54 54 rfl _).mono ?_
  rintro e w6 ⟨g6, rfl, hg6, hr6, hb6⟩
  go_wp2_with fail
  refine hK _ _ (But.of hb6) ?_
  clear hK K
  refine tree_loud rfl rfl (by rfl) (fun K hK => ?_); go_wp2_with fail
  have hb56 := ((Below.refl w5.heap.size w5).drew).trans hb6
  have hI6 := hI.inn.old hb56
  refine (write_any H hi [] (padl (bkey k) 54) none 0 0 _ 64 64 _ hI6 hr6 (padl_length _ _) (by simp) (by have := hI6.hash.lt; omega)).mono ?_
  rintro e w7 ⟨a7, n7, c7, rfl, hH7, hfr7, hr7⟩
  go_wp2_with fail
  refine hK _ _ (HsFr.but hfr7) ?_
  clear hK K
  refine tree_done ?_
  have hs6 : w5.heap.size ≤ w6.heap.size := hb56.size
  have hkl := hI.key.lt
  refine g_forget (fun W0 => MnI w H M hi ho kb k (padl (bkey k) 54) a7 n7 c7 W0 ∧ (rowB a7 c7 = none ∨ ∃ b, rowB a7 c7 = some b ∧ b < W0.heap.size)) ⟨⟨hfr7.blk (hI.mac.old hb56) (by omega) (by simp [rowB]), hH7, HashAt.nil (hfr7.blk (hI.out.hash.old hb56) (by omega) (by simp [rowB])) H, hfr7.blk (hI.key.old hb56) (by omega) (by simp [rowB]), (hI.below.trans (hb56.mono (by omega))).trans (hfr7.below hHi (by simp [rowB]) (by omega))⟩, ?_⟩ ?_
  · rcases hr7 with h | h | ⟨b, h, _⟩
    · exact .inl h
    · exact .inl h
    · exact .inr ⟨b, h, (hH7.row.lt h).2.1⟩
  clear hI hI6 hb6 hb56 hs6 hkl hfr7 hH7 hr7 hr6 C0
  rintro w8 ⟨hI, hrow⟩
  have HR := Lib.hid hrow
  clear hrow
  have C1 : ∀ W, But ho w8.drew W → W.cell? ⟨M, 1, none⟩ = some (.pointer (some ⟨ho, 0, none⟩)) := fun W hW => (hI.mac.drew.but hW (by omega)).cell rfl
  go_upto_region 4 with fail
  refine wp_region_treeB ho (.step 0 (.step 1 (.step 2 (.step 3 (.step 4 (.step 5 (.step 6 (.step 7 .done)))))))) (by kernel_rfl) (by kernel_rfl) (fun c a d v w h => by cases d <;> exact h) ?_
  repeat (first | (refine tree_skip rfl (by rfl) ?_; simp only [Act.put, List.setIfInBounds_toArray, List.set]) | (refine tree_quiet (v := ?_) rfl rfl (by rfl) ?_ ?_; rotate_left; (intro W hW; go_simp); (try with_reducible rfl); simp only [Act.put, List.setIfInBounds_toArray, List.set]))
  refine tree_quiet (v := .agg (vA 64 fun i => bv (bkey k i))) rfl rfl (by rfl) (fun W hW => exec_load_as 59 agg64b _ rfl rfl rfl (hI.key.drew.but hW (by omega)).cells (vL_length _ _)) ?_
  simp only [Act.put, List.setIfInBounds_toArray, List.set]
  refine tree_loud rfl rfl (by rfl) (fun K hK => ?_); go_wp2_with fail
  refine (mwith_any (bkey k) 92 92 rfl _).mono ?_
  rintro e w6 ⟨g6, rfl, hg6, hr6, hb6⟩
  go_wp2_with fail
  refine hK _ _ (But.of hb6) ?_
  clear hK K
  refine tree_loud rfl rfl (by rfl) (fun K hK => ?_); go_wp2_with fail
  have hb56 := ((Below.refl w8.heap.size w8).drew).trans hb6
  have hI6 := hI.out.old hb56
  have hJ6 := hI.inn.old hb56
  refine (write_any H ho [] (padl (bkey k) 92) none 0 0 _ 64 64 _ hI6 hr6 (padl_length _ _) (by simp) (by have := hI6.hash.lt; omega)).mono ?_
  rintro e w9 ⟨a9, n9, c9, rfl, hH9, hfr9, hr9⟩
  go_wp2_with fail
  refine hK _ _ (HsFr.but hfr9) ?_
  clear hK K
  refine tree_done ?_
  have hs6 : w8.heap.size ≤ w6.heap.size := hb56.size
  have hMl := hI.mac.lt
  have hJ9 := hJ6.fr hfr9 (by omega) hI6.hash (.inr rfl)
  have hM9 := hfr9.blk (hI.mac.old hb56) (by omega) (by simp [rowB])
  have hb9 := (hI.below.trans (hb56.mono (by omega))).trans (hfr9.below (show H ≤ ho by omega) (by simp [rowB]) (by omega))
  have hrr : rowB a7 c7 = none ∨ rowB a7 c7 ≠ rowB a9 c9 := by
    rcases HR.out with h | ⟨b, h, hlt⟩
    · exact .inl h
    · refine .inr fun e => ?_
      rw [h] at e
      rcases hr9 with h2 | h2 | ⟨b2, h2, hge⟩
      · rw [h2] at e; cases e
      · rw [h2] at e; simp [rowB] at e
      · rw [h2] at e; cases e; omega
  have hA : MacAt w9 H M k [] hi ho a7 n7 c7 a9 n9 c9 := ⟨hM9, by rw [hin, List.append_nil]; exact hJ9, hH9, by omega, hrr, by omega, hHi, by omega⟩
  clear hI hI6 hJ6 hb6 hb56 hs6 hMl hJ9 hM9 hfr9 hH9 hr9 hrr hr6 C1
  go_wp2_with fail
  go_ret
  rw [HH.out] at hA hb9
  exact ⟨M, hi, ho, a7, n7, c7, a9, n9, c9, rfl, hA, hb9⟩
end Go.Proofs.Ytiadhcipfgckoaa
