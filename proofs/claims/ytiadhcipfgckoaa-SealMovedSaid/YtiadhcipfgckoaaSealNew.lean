/- A box made: walked. -/
import Derived.Test.YtiadhcipfgckoaaSeal
namespace Go.Proofs.Ytiadhcipfgckoaa
open Go.RowKit

def tagA (m : List UInt8) (g : Nat) : Array Value := mcA m (keyb nTag 3 g)
def cipA (m : List UInt8) (g : Nat) : Array Value := mcA m (keyb nCipher 6 g)
theorem nC_size : (strOf nCipher).size = 6 := rfl
theorem nT_size : (strOf nTag).size = 3 := rfl
set_option maxHeartbeats 1000000 in
set_option maxRecDepth 40000 in
theorem newkey_any (s : ByteArray) (M G : Nat) (ma : Option Addr) (mn mc : Nat) (m : List UInt8) (g : Nat) (w : World) (hs : s.size ≤ 100) (hM : Blk w M #[.slice ma mn mc] 22) (hG : Blk w G #[.int .u64 (g : Int)] 23) (hm : BytesAt w ma m) (hml : m.length = mn) (hmm : mn < 140737488352000) (hg : g < 18446744073709551616) :
    Calls Try.prog 22 #[.string s, .pointer (some ⟨M, 0, none⟩), .pointer (some ⟨G, 0, none⟩)] w (McOut w m (keyb (strL s) s.size g)) := by
  have HL := Lib.hid hml
  obtain ⟨H, hH⟩ : ∃ H, H = w.heap.size := ⟨_, rfl⟩
  have HH := Lib.hid hH
  have hR0 := Blk.new w (vA 32 fun _ => .int .u8 0) 38
  have hw0 := (Below.refl w.heap.size w).alloc (Nat.le_refl _) (.cells (vA 32 fun _ => .int .u8 0) 38)
  rw [← hH] at hR0 hw0
  have hM0 := hM.alloc (.cells (vA 32 fun _ => .int .u8 0) 38)
  have hG0 := hG.alloc (.cells (vA 32 fun _ => .int .u8 0) 38)
  have hm0 := hm.alloc (.cells (vA 32 fun _ => .int .u8 0) 38)
  clear hml hH hM hG hm
  go_enter Try.func22, Try.ntmps22
  go_upto_region 1 with fail
  rw [← HH.out]
  refine wp_forget (fun W0 => Blk W0 H (vA 32 fun _ => .int .u8 0) 38 ∧ Blk W0 M #[.slice ma mn mc] 22 ∧ Blk W0 G #[.int .u64 (g : Int)] 23 ∧ BytesAt W0 ma m ∧ Below H w W0) ⟨hR0, hM0, hG0, hm0, hw0⟩ ?_
  clear hR0 hM0 hG0 hm0 hw0
  rintro w1 ⟨hR, hM, hG, hm, hw⟩
  have c0 : w1.cell? ⟨M, 0, none⟩ = some (.slice ma mn mc) := hM.cell rfl
  have c1 : w1.cell? ⟨G, 0, none⟩ = some (.int .u64 (g : Int)) := hG.cell rfl
  have hlt := hR.lt
  go_wp2_with fail
  refine (mkey_any m ma mn mc s g _ hm HL.out hmm (by omega) hg).mono ?_
  unfold McOut
  rintro e w2 ⟨rfl, hb2⟩
  have hR2 := hR.old hb2
  have hw2 := hw.trans (hb2.mono (Nat.le_of_lt hlt))
  clear hR hM hG hm hw c0 c1 hb2 hlt
  go_wp2_with (refine wpList_store_blk rfl 38 agg32 (.tmp 4) _ (cells := mcA m (keyb (strL s) s.size g)) rfl rfl rfl hR2 (vA_size _ _) (vA_size _ _) (vA_one fun _ _ => rfl) ?_)
  exact post_blk rfl agg32 rfl (hR2.setRow _) (vA_size _ _) rfl ⟨rfl, HH.out ▸ below_setRow hw2 (Nat.le_refl _) _⟩
end Go.Proofs.Ytiadhcipfgckoaa
