/- Keys made of a key, as the document has them: walked. -/
import Derived.Test.YtiadhcipfgckoaaMacKey
namespace Go.Proofs.Ytiadhcipfgckoaa
open Go.RowKit

def Ry1 (w : World) (H : Nat) (s : ByteArray) (f : Nat) (v i : Value) (wr : World) : Prop :=
  ∃ (t : Nat) (a : Option Addr) (c : Nat), f + t = s.size ∧ i = .int .i64 (t : Int) ∧ v = .slice a (8 + t) c ∧ Blk wr H (vA 32 fun _ => .int .u8 0) 38 ∧ Own wr (H + 1) 5 1 a (8 + t) c ((be64 s.size ++ (strL s).take t).map bv) ∧ Below H w wr
theorem strL_snoc (s : ByteArray) (t : Nat) (h : t < s.size) : (strL s).take (t + 1) = (strL s).take t ++ [s[t]] := by
  rw [List.take_succ_eq_append_getElem (by rw [strL_length]; exact h)]
  rfl
set_option maxHeartbeats 2000000 in
set_option maxRecDepth 100000 in
theorem rkey_any (k : List UInt8) (ka : Option Addr) (kn kc : Nat) (s : ByteArray) (n : Nat) (w : World) (hk : BytesAt w ka k) (hkl : k.length = kn) (hkm : kn < 140737488352000) (hsm : s.size < 400000000000) (hn : n < 18446744073709551616) :
    Calls Try.prog 18 #[.slice ka kn kc, .string s, .int .u64 (n : Int)] w (McOut w k (keyb (strL s) s.size n)) := by
  have HK := Lib.hid hkl
  obtain ⟨H, hH⟩ : ∃ H, H = w.heap.size := ⟨_, rfl⟩
  have HH := Lib.hid hH
  have hR0 := Blk.new w (vA 32 fun _ => .int .u8 0) 38
  rw [← hH] at hR0
  have hk0 := Lib.hid hk
  clear hkl hH hk
  have hsI : (s.size : Int) ≤ 400000000000 := by omega
  go_enter Try.func18, Try.ntmps18
  go_wp2_with fail
  refine (reight_any s.size (by omega) _).mono ?_
  rintro e w1 ⟨a, c, rfl, ho, hb1⟩
  simp only [World.size_alloc] at ho hb1
  rw [← HH.out] at ho hb1
  have hR1 := hR0.below hb1 (by omega)
  have hw1 : Below H w w1 := (((Below.refl w.heap.size w).alloc (Nat.le_refl _) _).mono (Nat.le_of_eq HH.out)).trans (hb1.mono (by omega))
  have hst : Ry1 w H s s.size (.slice a 8 c) (.int .i64 0) w1 := ⟨0, a, c, by omega, rfl, rfl, hR1, by simpa using ho, hw1⟩
  clear hR0 ho hb1 hR1 hw1
  go_wp2_with fail
  rw [← HH.out]
  go_loopg [7, 8] s.size (Ry1 w H s)
  case atStart => exact hst
  case round =>
    clear hst
    obtain ⟨t, a, c, hf, rfl, rfl, hR, ho, hb⟩ := hrel
    have HF := Lib.hid hf
    clear hf
    have hle := hR.lt
    by_cases ht : t < s.size
    · have HS := Lib.hid (strL_snoc s t ht)
      have tt : decide ((t : Int) < (s.size : Int)) = true := by simp; omega
      have htI : (t : Int) < (s.size : Int) := by omega
      go_wp2_with (at_builtin; refine wpList_append_row rfl (.tmp 19) (.tmp 23) 22 rfl bytesT3 rfl (ho.alloc _) rfl (RowAt.new' _ _ _ _ (by simp)) (by rfl) (by exact all_one _ rfl) (by unfold maxLen; omega) (by omega) (by simp; omega) ?_)
      intro a4 c4 w4 own4 hg4
      have hb4 := (ho.alloc (.cells #[_] 5)).grown (hb.alloc (Nat.le_of_lt hle) _) (by omega) hg4 (by simp; omega)
      have hR4 := (hR.alloc (.cells #[_] 5)).grown hg4 fun e => by
        have := (World.ownsRow.lt ho _ e).1; omega
      clear hg4
      go_wp2_with fail
      go_roundg (gk - 1)
      case rel =>
        refine ⟨t + 1, a4, c4, by have := HF.out; omega, by go_num, rfl, hR4, ?_, hb4⟩
        rw [HS.out]
        simpa [bv, U8, Nat.add_assoc] using own4
      case measure => have := HF.out; omega
    · obtain rfl : t = s.size := by have := HF.out; omega
      rw [List.take_of_length_le (by rw [strL_length]; omega)] at ho
      go_wp2_with fail
      refine (reight_any n hn _).mono ?_
      rintro e w2 ⟨a2, c2, rfl, ho2, hb2⟩
      have hr2 := ho2.row
      have hoA := ho.old hb2
      have hR2 := hR.old hb2
      have hbA := hb.trans (hb2.mono (Nat.le_of_lt hle))
      have hle2 := hR2.lt
      clear ho2 ho hR hb hb2
      go_wp2_with (at_builtin; refine wpList_append_row rfl (.tmp 26) (.tmp 28) 22 rfl bytesT3 rfl hoA rfl hr2 (by rw [List.length_map, be64_length]) (bv_one _) (by unfold maxLen; omega) (by omega) (by omega) ?_)
      intro a4 c4 w4 own4 hg4
      have hb4 := hoA.grown hbA (by omega) hg4 (by omega)
      have hR4 := hR2.grown hg4 fun e => by
        have := (World.ownsRow.lt hoA _ e).1; omega
      have hr4 : BytesAt w4 a4 (keyb (strL s) s.size n) := by
        have := own4.row
        unfold BytesAt keyb
        rw [List.map_append]; exact this
      have hlen : (keyb (strL s) s.size n).length = 8 + s.size + 8 := by simp [keyb, be64_length, strL_length]; omega
      have HLN := Lib.hid hlen
      have hkr := hk0.out.below (HH.out ▸ hb4)
      clear own4 hg4 hoA hR2 hbA hr2 hlen hle hle2
      go_wp2_with fail
      refine (rmac_any k _ ka kn kc a4 _ c4 _ hkr HK.out (by omega) hr4 HLN.out (by omega)).mono ?_
      rintro e w5 ⟨rfl, hb5⟩
      have hR5 := hR4.old hb5
      have hw5 := hb4.trans (hb5.mono (by have := hR4.lt; omega))
      clear hR4 hb4 hb5 hr4 hkr
      go_wp2_with (refine wpList_store_blk rfl 38 agg32 (.tmp 6) _ (cells := mcA k (keyb (strL s) s.size n)) rfl rfl rfl hR5 (vA_size _ _) (vA_size _ _) (vA_one fun _ _ => rfl) ?_)
      exact post_blk rfl agg32 rfl (hR5.setRow _) (vA_size _ _) rfl ⟨rfl, HH.out ▸ below_setRow hw5 (Nat.le_refl _) _⟩

end Go.Proofs.Ytiadhcipfgckoaa
