/- The walks through a sum begun, begun anew, and copied. -/
import Derived.Test.YtiadhcipfgckoaaShaHash
namespace Go.Proofs.Ytiadhcipfgckoaa
open Go.RowKit

theorem len64 : Try.prog.arrayLen 76 = 64 := by kernel_rfl
theorem elem64 : Try.prog.elem 76 = 71 := by kernel_rfl
theorem arr64 : Try.prog.underlying 76 = some (.array (Try.prog.arrayLen 76) (Try.prog.elem 76)) := by rw [len64, elem64]; exact Try.underlying76
theorem all8 (b o : Nat) (W : World) : (Instr.sliceAt 74 (.pointer (some ⟨b, o, none⟩)) none none none).run Try.prog W = .ok (.slice (some ⟨b, o, none⟩) 8 8) W := by
  rw [run_sliceAt_array_all W _ _ arr8, elem8, sized_run u32Info, len8]
  simp [slicedAt, Addr.add_mid]
theorem all64 (b o : Nat) (W : World) : (Instr.sliceAt 76 (.pointer (some ⟨b, o, none⟩)) none none none).run Try.prog W = .ok (.slice (some ⟨b, o, none⟩) 64 64) W := by
  rw [run_sliceAt_array_all W _ _ arr64, elem64, sized_run u32Info, len64]
  simp [slicedAt, Addr.add_mid]
theorem hLit_vL : hVal.map wv = vL 8 fun j => wv (hwd j) := rfl
theorem kLit_vL : kVal.map wv = vL 64 fun j => wv (kwd j) := rfl
theorem roots_h (w : World) : Calls Try.prog 68 #[.int .i64 8, .bool false] w fun e w' => ∃ ad c, e = .returned (.slice (some ad) 8 c) ∧ RowAt w' (some ad) (vL 8 fun j => wv (hwd j)) ∧ Below w.heap.size w w' :=
  (roots_any 8 false w (by omega)).mono fun e w' ⟨k, a, c, hk, he, ho, hb⟩ => by
    rw [rts_h hk, hLit_vL] at ho
    obtain ⟨b, o, rfl, _⟩ := ho.row 0 (by rw [vL_length]; omega)
    exact ⟨_, c, he, ho.row, hb⟩
theorem roots_k (w : World) : Calls Try.prog 68 #[.int .i64 64, .bool true] w fun e w' => ∃ ad c, e = .returned (.slice (some ad) 64 c) ∧ RowAt w' (some ad) (vL 64 fun j => wv (kwd j)) ∧ Below w.heap.size w w' :=
  (roots_any 64 true w (by omega)).mono fun e w' ⟨k, a, c, hk, he, ho, hb⟩ => by
    rw [rts_k hk, kLit_vL] at ho
    obtain ⟨b, o, rfl, _⟩ := ho.row 0 (by rw [vL_length]; omega)
    exact ⟨_, c, he, ho.row, hb⟩
theorem RowAt.all {w : World} {ad : Addr} {vs : List Value} (h : RowAt w (some ad) vs) : ∀ j v, vs[j]? = some v → w.cell? (ad.add j) = some v := fun j v hv => by
  obtain ⟨hj, rfl⟩ := List.getElem?_eq_some_iff.1 hv
  obtain ⟨b, o, e, hc⟩ := h j hj
  obtain rfl := Option.some.inj e
  rw [Addr.add_mid]; exact hc
theorem vL_one {n : Nat} {f : Nat → Value} (h : ∀ i, (f i).oneCell' = true) : ∀ v ∈ vL n f, v.oneCell' = true := fun v hv => by
  obtain ⟨i, _, rfl⟩ := List.mem_map.1 hv
  exact h i

theorem hcs_one (h : Nat → BitVec 32) (a : Option Addr) (n c : Nat) {N : Int} (i : Nat) : (hcs h (.slice a n c) (.int .u64 N) i).oneCell' = true := by
  unfold hcs
  by_cases h1 : i < 8
  · rw [if_pos h1]; rfl
  · rw [if_neg h1]
    by_cases h2 : i = 8
    · rw [if_pos h2]; rfl
    · rw [if_neg h2]
      by_cases h3 : i = 9
      · rw [if_pos h3]; rfl
      · rw [if_neg h3]; rfl
set_option maxHeartbeats 1000000 in
set_option maxRecDepth 100000 in
theorem reset_any (g : Nat) (f : Nat → Value) (w : World) (hg : Blk w g (vA 74 f) 109) (hf : ∀ j, j < 64 → f (10 + j) = wv (kwd j)) :
    Calls Try.prog 69 #[.pointer (some ⟨g, 0, none⟩)] w fun e w' => e = .returned (.tuple #[]) ∧ Blk w' g (vA 74 (hcs hwd (.slice none 0 0) (.int .u64 0))) 109 ∧ w.grownBy w' (some g) := by
  have HF := Lib.hid hf
  clear hf
  have q1 := all8 g 0
  go_enter Try.func69, Try.ntmps69
  go_wp2_with fail
  refine wp_region_treeB g (.step 0 (.step 1 (.step 2 (.step 3 (.step 4 (.step 5 .done)))))) (by kernel_rfl) (by kernel_rfl) (fun c a d v w h => by cases d <;> exact h) ?_
  repeat (first | (refine tree_skip rfl (by rfl) ?_; simp only [Act.put, List.setIfInBounds_toArray, List.set]) | (refine tree_quiet (v := ?_) rfl rfl (by rfl) ?_ ?_; rotate_left; (intro W hW; go_simp); (try with_reducible rfl); simp only [Act.put, List.setIfInBounds_toArray, List.set]))
  refine tree_loud rfl rfl (by rfl) (fun K hK => ?_); go_wp2_with fail
  refine (roots_h _).mono ?_
  rintro e w1 ⟨ad, c, rfl, hrow, hb1⟩
  go_wp2_with fail
  refine hK _ _ (But.of hb1) ?_
  clear hK K q1
  have hg1 : Blk w1 g (vA 74 f) 109 := hg.drew.old hb1
  have ho1 : w.grownBy w1 (some g) := only_then (only_drew (World.grownBy.refl w _)) hb1
  refine tree_loud rfl rfl (by rfl) (fun K hK => ?_)
  refine wp_copy_row (.tmp 7) (.tmp 8) 110 110 rfl Try.underlying110 u32Info rfl rfl hg1 (cs := vL 8 fun j => wv (hwd j)) (by rw [vL_length]; rfl) hrow.all (by rw [vL_length, vA_size]; omega) (vL_one fun _ => rfl) ?_
  refine hK _ _ (But.setRow _ _) ?_
  clear hK K
  refine tree_done ?_
  rw [show (vL 8 fun j => wv (hwd j)).toArray = vA 8 fun j => wv (hwd j) from rfl, vA_splice _ _ (by omega)]
  refine g_forget (fun W0 => Blk W0 g (vA 74 fun j => if 0 ≤ j ∧ j < 0 + 8 then wv (hwd (j - 0)) else f j) 109 ∧ w.grownBy W0 (some g)) ⟨hg1.setRow _, only_setRow ho1 _⟩ ?_
  clear hg hg1 ho1 hb1 hrow
  rintro w2 ⟨hg, ho⟩
  have c8 : w2.cell? ⟨g, 8, none⟩ = some (f 8) := hg.atV (by omega) (if_neg (by omega))
  have c9 : w2.cell? ⟨g, 9, none⟩ = some (f 9) := hg.atV (by omega) (if_neg (by omega))
  have hfz := hg.free
  go_wp2_with fail
  clear c8 c9 hfz
  go_end0
  refine ⟨rfl, ?_, only_setCell (only_setCell ho 8 _) 9 _⟩
  refine ((hg.setV (by omega) _).setV (by omega) _).ofV fun j hj => ?_
  unfold hcs
  by_cases h9 : j = 9
  · subst h9; rfl
  · rw [if_neg h9]
    by_cases h8 : j = 8
    · subst h8; rfl
    · rw [if_neg h8]
      by_cases h7 : j < 8
      · rw [if_pos ⟨by omega, by omega⟩, if_pos h7]; rfl
      · rw [if_neg (by omega), if_neg h7, if_neg h8, if_neg h9]
        have := HF.out (j - 10) (by omega)
        rwa [show 10 + (j - 10) = j by omega] at this

/-! ### New -/
def h0cells (j : Nat) : Value := if j < 8 then .int .u32 0 else if j = 8 then .slice none 0 0 else if j = 9 then .int .u64 0 else .int .u32 0
theorem hash0 : Try.prog.built 109 [] = some (vA 74 h0cells) := by kernel_rfl
def NewPost (w : World) (e : Ending) (w' : World) : Prop :=
  ∃ g, e = .returned (.pointer (some ⟨g, 0, none⟩)) ∧ w.heap.size ≤ g ∧ Blk w' g (vA 74 (hcs hwd (.slice none 0 0) (.int .u64 0))) 109 ∧ Below w.heap.size w w'
theorem HashAt.nil {w : World} {g : Nat} (h : Blk w g (vA 74 (hcs hwd (.slice none 0 0) (.int .u64 0))) 109) (B : Nat) : HashAt w B g [] none 0 0 := ⟨h, Mid.nil' _ _ _, by simp⟩
set_option maxHeartbeats 1000000 in
set_option maxRecDepth 100000 in
theorem new_any (w : World) : Calls Try.prog 45 #[] w (NewPost w) := by
  obtain ⟨g, hg⟩ : ∃ g, g = w.heap.size := ⟨_, rfl⟩
  have hB := Blk.new w (vA 74 h0cells) 109
  rw [← hg] at hB
  have HG := Lib.hid hg
  have c0 : (Try.prog.built 109 []).getD #[] = vA 74 h0cells := by rw [hash0]; rfl
  have HC := Lib.hid c0
  clear hg c0
  go_enter Try.func45, Try.ntmps45
  go_wp2_with (refine wpList_build rfl 109 #[] rfl (by simp [hash0]) ?_)
  rw [HC.out, ← HG.out]
  have hb0 : Below g w (w.alloc (.cells (vA 74 h0cells) 109)) := (Below.refl _ _).alloc (by rw [HG.out]; exact Nat.le_refl _) _
  refine wp_forget (fun W0 => Blk W0 g (vA 74 h0cells) 109 ∧ Below g w W0) ⟨hB, hb0⟩ ?_
  clear hB hb0
  rintro w0 ⟨hB, hb⟩
  have q1 := all64 g 10
  refine wp_region_treeB g (.step 0 (.step 1 (.step 2 (.step 3 (.step 4 (.step 5 .done)))))) (by kernel_rfl) (by kernel_rfl) (fun c a d v w h => by cases d <;> exact h) ?_
  repeat (first | (refine tree_skip rfl (by rfl) ?_; simp only [Act.put, List.setIfInBounds_toArray, List.set]) | (refine tree_quiet (v := ?_) rfl rfl (by rfl) ?_ ?_; rotate_left; (intro W hW; go_simp); (try with_reducible rfl); simp only [Act.put, List.setIfInBounds_toArray, List.set]))
  refine tree_loud rfl rfl (by rfl) (fun K hK => ?_); go_wp2_with fail
  refine (roots_k _).mono ?_
  rintro e w1 ⟨ad, c, rfl, hrow, hb1⟩
  go_wp2_with fail
  refine hK _ _ (But.of hb1) ?_
  clear hK K q1
  have hg1 : Blk w1 g (vA 74 h0cells) 109 := hB.drew.old hb1
  have hb01 : Below g w w1 := hb.drew.trans (hb1.mono (by have := hB.lt; show g ≤ w0.heap.size; omega))
  refine tree_loud rfl rfl (by rfl) (fun K hK => ?_)
  refine wp_copy_row (.tmp 7) (.tmp 8) 110 110 rfl Try.underlying110 u32Info rfl rfl hg1 (cs := vL 64 fun j => wv (kwd j)) (by rw [vL_length]; rfl) hrow.all (by rw [vL_length, vA_size]; omega) (vL_one fun _ => rfl) ?_
  refine hK _ _ (But.setRow _ _) ?_
  clear hK K
  refine tree_done ?_
  rw [show (vL 64 fun j => wv (kwd j)).toArray = vA 64 fun j => wv (kwd j) from rfl, vA_splice _ _ (by omega)]
  refine g_forget (fun W0 => Blk W0 g (vA 74 fun j => if 10 ≤ j ∧ j < 10 + 64 then wv (kwd (j - 10)) else h0cells j) 109 ∧ Below g w W0) ⟨hg1.setRow _, below_setRow hb01 (Nat.le_refl _) _⟩ ?_
  clear hB hg1 hb hb1 hb01 hrow
  rintro w2 ⟨hB, hb⟩
  go_wp2_with fail
  refine (reset_any g _ _ hB (fun j hj => by rw [if_pos ⟨by omega, by omega⟩, Nat.add_sub_cancel_left])).mono ?_
  rintro e w3 ⟨rfl, hB3, ho3⟩
  go_wp2_with fail
  go_ret
  refine ⟨g, rfl, by rw [HG.out]; exact Nat.le_refl _, hB3, ?_⟩
  rw [← HG.out]
  exact below_only hb (by have := hB.lt; omega) ho3 (Nat.le_refl _)

/-! ### Copy -/
def CopyPost (w : World) (l : List UInt8) (n : Nat) (e : Ending) (w' : World) : Prop :=
  ∃ g a c, e = .returned (.pointer (some ⟨g, 0, none⟩)) ∧ w.heap.size ≤ g ∧ HashAt w' w.heap.size g l a n c ∧ Below w.heap.size w w'
set_option maxHeartbeats 1000000 in
set_option maxRecDepth 100000 in
theorem copy_any (B g : Nat) (l : List UInt8) (a : Option Addr) (n c : Nat) (w : World) (hH : HashAt w B g l a n c) :
    Calls Try.prog 49 #[.pointer (some ⟨g, 0, none⟩)] w (CopyPost w l n) := by
  have hh := hH.hash
  have hrow := hH.row
  have hlt := hH.lt
  have hnl : n ≤ l.length := by have := hrow.len; rw [← this]; simp
  have hzr := zero_run (show (Try.prog.info? 109).bind (·.zero) = some (.agg (vA 74 h0cells)) by kernel_rfl)
  have HH := Lib.hid hH
  clear hH
  go_enter Try.func49, Try.ntmps49
  go_upto_region 4 with (first | refine wpList_load_blk rfl 109 hashT _ rfl rfl hh (vA_size _ _) ?_ | refine wpList_store_blk rfl 109 hashT (.tmp 3) _ rfl rfl rfl (Blk.new _ _ _) (vA_size _ _) (vA_size _ _) (vA_one fun i _ => hcs_one _ _ _ _ i) ?_)
  clear hzr
  obtain ⟨G, hG⟩ : ∃ G, G = w.heap.size := ⟨_, rfl⟩
  have hB0 := Blk.new w (vA 74 h0cells) 109
  rw [← hG] at hB0 ⊢
  have HG := Lib.hid hG
  have hgl : g < G := by rw [hG]; exact hh.lt
  have hb0 : Below G w ((w.alloc (.cells (vA 74 h0cells) 109)).setRow G (vA 74 (hcs (stt l (l.length / 64)) (.slice a n c) (.int .u64 (l.length : Int))))) := below_setRow ((Below.refl _ _).alloc (by omega) _) (Nat.le_refl _) _
  have hs0 : ((w.alloc (.cells (vA 74 h0cells) 109)).setRow G (vA 74 (hcs (stt l (l.length / 64)) (.slice a n c) (.int .u64 (l.length : Int))))).heap.size = G + 1 := by simp [World.setRow, ← hG]
  refine wp_forget (fun W0 => Blk W0 G (vA 74 (hcs (stt l (l.length / 64)) (.slice a n c) (.int .u64 (l.length : Int)))) 109 ∧ Below G w W0 ∧ W0.heap.size = G + 1) ⟨hB0.setRow _, hb0, hs0⟩ ?_
  clear hB0 hb0 hs0 hh hG
  rintro w1 ⟨hB, hb, hs⟩
  have hold : Below w.heap.size w w1 := by rw [← HG.out]; exact hb
  have hread := RowAt.below hrow.read hold
  have hc8 : w1.cell? ⟨g, 8, none⟩ = some (.slice a n c) := (HH.out.hash.old hold).atV (by omega) (hcs_8 _ _ _)
  have hgs : g < w1.heap.size := by omega
  have HS := Lib.hid hs
  have hmid : Mid w1 G 5 (some ⟨w1.heap.size, 0, none⟩) 0 0 [] := ⟨rfl, Nat.le_refl _, by unfold maxLen; omega, (fun h => by cases h), fun h => by omega⟩
  clear hs hold
  go_wp2_with (at_builtin; refine wpList_append_mid rfl (.tmp 9) (.tmp 13) 22 rfl bytesT3 rfl (hmid.alloc _) rfl (hread.alloc _) (by rw [hrow.len]) (by intro u hu; obtain ⟨_, _, rfl⟩ := List.mem_map.1 hu; rfl) (by unfold maxLen; omega) (by omega) (by simp; have := HS.out; omega) ?_)
  intro a2 c2 w2 hm2 hg2 hr2
  have hrn : rowB (some (⟨w1.heap.size, 0, none⟩ : Addr)) 0 = none := rfl
  rw [hrn] at hg2 hr2
  have hB2 := (hB.alloc (.cells #[] 5)).grown hg2 (by simp)
  have hb2 : Below G w w2 := (hb.alloc (by have := HS.out; omega) _).grown hg2 (by simp; have := HS.out; omega) (by simp)
  have hc8' : w2.cell? ⟨G, 8, none⟩ = some (.slice a n c) := hB2.atV (by omega) (hcs_8 _ _ _)
  have hfz := hB2.free
  clear hc8
  go_wp2_with fail
  clear hc8' hfz
  go_ret
  refine ⟨G, a2, c2, by simp, by rw [← HG.out]; exact Nat.le_refl _, ⟨?_, ?_, hlt⟩, ?_⟩
  · refine (hB2.setV (by omega) _).ofV fun j _ => ?_
    rw [hcs_set8]
  · rw [← HG.out]
    have := hm2.setCell hB2 (by decide) 8 (.slice a2 (0 + n) c2)
    simpa using this
  · rw [← HG.out]
    exact hb2.setCell (Nat.le_refl _) _
end Go.Proofs.Ytiadhcipfgckoaa
