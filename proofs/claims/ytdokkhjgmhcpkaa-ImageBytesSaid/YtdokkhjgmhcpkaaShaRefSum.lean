/- The walk through the reference's sum. -/
import Derived.Test.YtdokkhjgmhcpkaaShaRefBlock
import Derived.Test.YtdokkhjgmhcpkaaShaSum
namespace Go.Proofs.Ytdokkhjgmhcpkaa
open Go.RowKit

theorem run_cut_mid {t e : TypeId} {P : Program} (ht : P.underlying t = some (.slice e)) (hsz : (P.info? e).map (·.size) = some 1) (g n c k h : Nat) (hk : k < h) (hh : h ≤ c) (W : World) :
    (Instr.sliceAt t (.slice (some ⟨g, 0, none⟩) n c) (some (.int .i64 (k : Int))) (some (.int .i64 (h : Int))) none).run P W = .ok (.slice (some ⟨g, k, none⟩) (h - k) (c - k)) W := by
  have he : P.elem t = e := by simp [Program.elem, ht]
  rw [run_sliceAt_slice W t _ _ _ _ (by rw [he]; exact ht)]
  rw [run_slice_lh W t _ n c (by rw [he]; exact ht) .i64 .i64 (k : Int) (h : Int) (by omega) (by omega) (by omega), he, sized_run hsz]
  have : ¬ c = k := by omega
  simp [sliced, Addr.add_mid, this]

structure SrI (w1 : World) (B n : Nat) (S : List UInt8) (a : Option Addr) (c : Nat) (wr : World) : Prop where
  own : Own wr B 5 1 a n c (S.map bv)
  below : Below B w1 wr
def Sr1 (w1 : World) (B L : Nat) (l : List UInt8) (f : Nat) (v : Value) (wr : World) : Prop :=
  ∃ (z n : Nat) (a : Option Addr) (c : Nat), f + z = zN L ∧ n = L + 1 + z ∧ v = .slice a n c ∧ SrI w1 B n (pdl l z) a c wr
def Sr2 (w1 : World) (B L : Nat) (S : List UInt8) (f : Nat) (v i : Value) (wr : World) : Prop :=
  ∃ (k n : Nat) (a : Option Addr) (c : Nat), f + k = 8 ∧ n = S.length + k ∧ i = .int .i64 (7 - (k : Int)) ∧ v = .slice a n c ∧ SrI w1 B n (S ++ (be64 (L * 8)).take k) a c wr
structure SrJ (w1 : World) (B V K : Nat) (h : Nat → BitVec 32) (S : List UInt8) (g : Nat) (wr : World) : Prop where
  row : BytesAt wr (some ⟨g, 0, none⟩) S
  hst : Blk wr V (vA 8 fun j => wv (h j)) 107
  kst : Blk wr K (vA 64 fun j => wv (kwd j)) 109
  below : Below B w1 wr
def Sr3 (w1 : World) (B V K N : Nat) (S : List UInt8) (g : Nat) (f : Nat) (at_ : Value) (wr : World) : Prop :=
  ∃ i : Nat, f + i = N ∧ at_ = .int .i64 (64 * (i : Int)) ∧ SrJ w1 B V K (stt S i) S g wr
def Sr4 (w1 : World) (B V O : Nat) (l : List UInt8) (f : Nat) (i : Value) (wr : World) : Prop :=
  ∃ k : Nat, f + k = 32 ∧ i = .int .i64 (k : Int) ∧ Blk wr V (vA 8 fun j => wv (endw l j)) 107 ∧ Blk wr O (vA 32 fun j => if j < k then bv (dgb l j) else .int .u8 0) 48 ∧ Below B w1 wr
theorem full_mod (l : List UInt8) : (full l).length = 64 * ((full l).length / 64) := by
  rw [full, List.length_append, be64_length, pdl_length]
  unfold zN
  omega
theorem be64_take (n k : Nat) (hk : k < 8) : (be64 n).take (k + 1) = (be64 n).take k ++ [be64b n k] := by
  rw [List.take_succ_eq_append_getElem (by rw [be64_length]; exact hk)]
  simp [be64]
set_option maxHeartbeats 2000000 in
set_option maxRecDepth 100000 in
theorem rsum_any (l : List UInt8) (la : Option Addr) (cap L : Nat) (w : World) (hm : BytesAt w la l) (hlen : l.length = L) (hl : L < 140737488353000) :
    Calls Try.prog 41 #[.slice la L cap] w fun e w' => e = .returned (.agg (dgA l)) ∧ Below w.heap.size w w' := by
  have HL := Lib.hid hlen
  clear hlen
  obtain ⟨H, hH⟩ : ∃ H, H = w.heap.size := ⟨_, rfl⟩
  obtain ⟨B, hB⟩ : ∃ B, B = H + 1 := ⟨_, rfl⟩
  rw [← hH]
  go_enter Try.func41, Try.ntmps41
  go_upto_region 1 with fail
  rw [← hH]
  refine wp_forget (fun W0 => Blk W0 H (vA 32 fun _ => .int .u8 0) 48 ∧ BytesAt W0 la l ∧ Below H w W0 ∧ W0.heap.size = B) ⟨by rw [hH]; exact Blk.new _ _ _, hm.alloc _, by rw [hH]; (try unfold Kept); repeat (first | assumption | exact Below.refl _ _ | exact below_undrew (Below.refl _ _) | exact Below.mono (by assumption) (by first | (simp; done) | (simp; omega) | omega) | refine below_setRow ?_ (by first | (simp; done) | (simp; omega) | omega) _ | refine Below.setCell ?_ (by first | (simp; done) | (simp; omega) | omega) _ | refine Below.alloc ?_ (by first | (simp; done) | (simp; omega) | omega) _ | refine below_drewN ?_ _ | refine Below.drew ?_ | refine below_undrew ?_ | refine below_step ?_ (by assumption)), by simp [hB, hH]⟩ ?_
  clear hm
  rintro w1 ⟨hR, hm, hb0, hz1⟩
  have HH := Lib.hid hH
  have HB := Lib.hid hB
  clear hH hB
  go_wp2_with (at_builtin; refine wpList_append_row rfl (.tmp 11) (.tmp 12) 32 rfl bytesT3 rfl (Own.nil _ B _ _) rfl hm (by rw [List.length_map, HL.out, Nat.mul_one]) (bv_one _) (by unfold maxLen; omega) (by omega) (by omega) ?_)
  intro a2 c2 w2 own2 hg2
  have hb2 : Below B w1 w2 := (Own.nil w1 B 5 1).grown (Below.refl _ _) (Nat.le_refl _) hg2 (by omega)
  have hs2 := hb2.size
  clear hg2 hm
  go_wp2_with (at_builtin; refine wpList_append_row rfl (.tmp 14) (.tmp 15) 32 rfl bytesT3 rfl (own2.alloc _) rfl (RowAt.new' _ _ _ _ (by simp)) (by rfl) (by exact all_one _ rfl) (by unfold maxLen; omega) (by omega) (by simp; omega) ?_)
  intro a3 c3 w3 own3 hg3
  have hb3 := (own2.alloc (.cells #[Value.int .u8 128] 5)).grown (hb2.alloc (by omega) _) (Nat.le_refl _) hg3 (by simp; omega)
  have hI0 : SrI w1 B (L + 1) (pdl l 0) a3 c3 w3 := ⟨by
    have e : (pdl l 0).map bv = l.map bv ++ [Value.int .u8 128] := by simp [pdl, bv, U8]
    rw [e]; exact own3, hb3⟩
  clear own2 own3 hg3 hb2 hb3 hs2
  go_wp2_with fail
  go_loopg [3] (zN L) (Sr1 w1 B L l)
  case atStart => exact ⟨0, L + 1, a3, c3, by omega, by omega, rfl, hI0⟩
  case round =>
    clear hI0
    obtain ⟨z, n, a, c, hf, hn, rfl, hI⟩ := hrel
    obtain ⟨q, hq⟩ : ∃ q, q = n % 64 := ⟨_, rfl⟩
    have hqI : (n : Int) % 64 = (q : Int) := by omega
    have hz : z ≤ zN L := by omega
    have hzn : (q = 56 ↔ z = zN L) := by unfold zN at hz ⊢; omega
    have hsz := hI.below.size
    have hZ : zN L < 64 := by unfold zN; omega
    have HF := Lib.hid hf
    have HN := Lib.hid hn
    clear hf
    by_cases h56 : q = 56
    · have HZ := Lib.hid (hzn.1 h56)
      subst h56
      obtain ⟨S, hS⟩ : ∃ S, S = pdl l (zN L) := ⟨_, rfl⟩
      have hIz : SrI w1 B n S a c wr := by rw [hS, ← HZ.out]; exact hI
      have hnS : n = S.length := by rw [hS, pdl_length, ← HZ.out, HL.out]; exact hn
      have hS0 : S.length < 140737488354000 := by omega
      have HS := Lib.hid hS
      have HNS := Lib.hid hnS
      have hq56 : (n : Int) % 64 = 56 := by simpa using hqI
      clear hn hq hqI hz hzn hZ hI hS hnS
      go_wp2_with fail
      go_loopg [3, 5] 8 (Sr2 w1 B L S)
      case atStart => exact ⟨0, n, a, c, by omega, by have := HNS.out; omega, rfl, rfl, by simpa using hIz⟩
      case round =>
        clear hIz hq56
        obtain ⟨k, n, a, c, hf, hn, rfl, rfl, hI⟩ := hrel
        by_cases hk : k < 8
        · obtain ⟨j, hj⟩ : ∃ j, j = 7 - k := ⟨_, rfl⟩
          have hjI : 7 - (k : Int) = (j : Int) := by omega
          rw [hjI]
          obtain ⟨s, hs⟩ : ∃ s, s = 8 * j := ⟨_, rfl⟩
          have hsI : 8 * (j : Int) = (s : Int) := by omega
          have hs1 : s = 56 - 8 * k := by omega
          have hj8 : (j : Int) < 8 := by omega
          have hs8 : (s : Int) < 64 := by omega
          have tt : decide ((0 : Int) ≤ (j : Int)) = true := by simp
          have HF2 := Lib.hid hf
          have HJ := Lib.hid hj
          have HS1 := Lib.hid hs1
          have hsz2 := hI.below.size
          have hn1 : n < 140737488354100 := by omega
          have HN2 := Lib.hid hn
          clear hf hj hs hs1 hjI hn
          go_wp2_with (at_builtin; refine wpList_append_row rfl (.tmp 32) (.tmp 39) 32 rfl bytesT3 rfl (hI.own.alloc _) rfl (RowAt.new' _ _ _ _ (by simp)) (by rfl) (by exact all_one _ rfl) (by unfold maxLen; omega) (by omega) (by simp; omega) ?_)
          intro a4 c4 w4 own4 hg4
          have hb4 := (hI.own.alloc (.cells #[Value.int .u8 ((L : Int) * 8 / 2 ^ s % 256)] 5)).grown (hI.below.alloc (by omega) _) (Nat.le_refl _) hg4 (by simp; omega)
          clear hg4
          go_wp2_with fail
          go_roundg (gk - 1)
          case rel =>
            have hf := HF2.out
            have hn := HN2.out
            have hj := HJ.out
            refine ⟨k + 1, n + 1, a4, c4, by omega, by omega, ?_, rfl, ⟨?_, hb4⟩⟩
            · go_num
            · rw [be64_at (L * 8) L k _ rfl (by rw [← HS1.out]; norm_cast)] at own4
              rw [be64_take _ _ hk]; simp only [List.map_append, List.map_take, List.map_cons, List.map_nil]; exact own4
          case measure => have hf := HF2.out; omega
        · obtain rfl : k = 8 := by omega
          rw [show 7 - ((8 : Nat) : Int) = -1 from rfl]
          have hF : full l = S ++ be64 (L * 8) := by rw [full, HL.out, HS.out]
          have hIf : SrI w1 B n (full l) a c wr := by
            have e : (be64 (L * 8)).take 8 = be64 (L * 8) := List.take_of_length_le (by rw [be64_length]; exact Nat.le_refl _)
            rw [hF]; rw [e] at hI; exact hI
          have hfl : n = (full l).length := by rw [hF, List.length_append, be64_length]; exact hn
          have hnl : n < 140737488354100 := by omega
          have HFL := Lib.hid hfl
          clear hI hF hn hf hfl
          go_wp2_with fail
          refine (rfirst_any _).mono ?_
          rintro e w5 ⟨rfl, hb5⟩
          go_upto_region 12 with (refine wpList_store_blk rfl 107 agg8 (.tmp 6) _ (cells := vA 8 fun j => wv (hwd j)) rfl rfl rfl (Blk.new _ _ _) (vA_size _ _) rfl (vA_one fun _ _ => rfl) ?_)
          obtain ⟨V, hV⟩ : ∃ V, V = w5.heap.size := ⟨_, rfl⟩
          have hz5 := hIf.below.size
          have hz5b := hb5.size
          have hBV : B ≤ V := by omega
          have hIf5 : SrI w1 B n (full l) a c w5 := ⟨hIf.own.old hb5, hIf.below.trans (hb5.mono (by omega))⟩
          have hV0 := Blk.new w5 (vA 8 fun _ => .int .u32 0) 107
          rw [← hV] at hV0 ⊢
          refine wp_forget (fun W0 => SrI w1 B n (full l) a c W0 ∧ Blk W0 V (vA 8 fun j => wv (hwd j)) 107) ⟨⟨(hIf5.own.alloc _).setRow_apart hV0 (by decide) _, below_setRow (hIf5.below.alloc (by omega) _) hBV _⟩, hV0.setRow _⟩ ?_
          clear hIf hIf5 hb5 hV hV0 hz5 hz5b
          rintro w6 ⟨hI, hS⟩
          go_wp2_with fail
          refine (rrounds_any _).mono ?_
          rintro e w5 ⟨rfl, hb5⟩
          go_upto_region 13 with (refine wpList_store_blk rfl 109 agg64 (.tmp 7) _ (cells := vA 64 fun j => wv (kwd j)) rfl rfl rfl (Blk.new _ _ _) (vA_size _ _) rfl (vA_one fun _ _ => rfl) ?_)
          obtain ⟨Kb, hKb⟩ : ∃ K, K = w5.heap.size := ⟨_, rfl⟩
          have hz5 := hI.below.size
          have hz5b := hb5.size
          have hVK : V < Kb := by have := hS.lt; omega
          have hI5 : SrI w1 B n (full l) a c w5 := ⟨hI.own.old hb5, hI.below.trans (hb5.mono (by omega))⟩
          have hS5 := hS.old hb5
          have hV0 := Blk.new w5 (vA 64 fun _ => .int .u32 0) 109
          rw [← hKb] at hV0 ⊢
          obtain ⟨g, cur, rfl, hBg, hcur, -, -⟩ := hI.own.blk (by rw [HFL.out, full, List.length_append, be64_length]; omega)
          refine wp_forget (fun W0 => SrI w1 B n (full l) (some ⟨g, 0, none⟩) c W0 ∧ Blk W0 V (vA 8 fun j => wv (hwd j)) 107 ∧ Blk W0 Kb (vA 64 fun j => wv (kwd j)) 109) ⟨⟨(hI5.own.alloc _).setRow_apart hV0 (by decide) _, below_setRow (hI5.below.alloc (by omega) _) (by omega) _⟩, (hS5.alloc _).setRow_other _ _ (by omega), hV0.setRow _⟩ ?_
          have hgV : g ≠ V := Blk.ne hcur hS (by decide)
          clear hI hI5 hb5 hKb hV0 hz5 hz5b hS hS5 hcur
          rintro w7 ⟨hI, hS, hKs⟩
          have hcn := hI.own.le
          have hcm := hI.own.cap_le
          unfold maxLen at hcm
          have hJ : SrJ w1 B V Kb (stt (full l) 0) (full l) g w7 := ⟨hI.own.row, hS, hKs, hI.below⟩
          have hfm : n = 64 * (n / 64) := by rw [HFL.out]; exact full_mod l
          obtain ⟨N, hN⟩ : ∃ N, N = n / 64 := ⟨_, rfl⟩
          rw [← hN] at hfm
          have HN := Lib.hid hN
          have HFM := Lib.hid hfm
          clear hN hI hS hKs hfm
          go_wp2_with fail
          go_loopg [8] N (Sr3 w1 B V Kb N (full l) g)
          case atStart => exact ⟨0, by omega, rfl, hJ⟩
          case round =>
            clear hJ
            obtain ⟨i, hf, rfl, hJ⟩ := hrel
            by_cases hi : i < N
            · have hfm := HFM.out
              obtain ⟨p, hp⟩ : ∃ p, p = 64 * i := ⟨_, rfl⟩
              obtain ⟨p2, hp2⟩ : ∃ q, q = p + 64 := ⟨_, rfl⟩
              have hpI : 64 * (i : Int) = (p : Int) := by omega
              rw [hpI]
              have hpn : p2 ≤ n := by omega
              have tt : decide (p < n) = true := by simp; omega
              have e2 : IntKind.i64.wrap ((p : Int) + 64) = (p2 : Int) := by rw [IntWalk.i64_in _ (by omega)]; omega
              have e3 : (p : Int) + 64 = (p2 : Int) := by omega
              have hcut : ∀ W, (Instr.sliceAt 32 (.slice (some ⟨g, 0, none⟩) n c) (some (.int .i64 (p : Int))) (some (.int .i64 (p2 : Int))) none).run Try.prog W = .ok (.slice (some ⟨g, p, none⟩) 64 (c - p)) W := fun W => by
                have := run_cut_mid (P := Try.prog) Try.underlying32 u8Info g n c p p2 (by omega) (by omega) W
                rwa [show p2 - p = 64 by omega] at this
              have hrow : BytesAt wr (some ⟨g, p, none⟩) (((full l).drop p).take 64) := by
                have h1 := RowAt.drop p hJ.row
                rw [Nat.zero_add, ← List.map_drop] at h1
                have h2 := RowAt.take 64 h1
                rwa [← List.map_take] at h2
              have hml : (((full l).drop p).take 64).length = 64 := by rw [List.length_take, List.length_drop, ← HFL.out]; omega
              have hcm : ∀ j, j < 8 → cmp (stt (full l) i) (wd (((full l).drop p).take 64) 0) j = stt (full l) (i + 1) j := fun j hj => by
                rw [stt]
                refine cmp_eq (fun _ _ => rfl) (fun t ht => wd_eq (fun q hq => ?_) ht) j hj
                unfold byt
                rw [Nat.zero_add, List.getD_eq_getElem?_getD, List.getD_eq_getElem?_getD, List.getElem?_take_of_lt hq, List.getElem?_drop, hp]
              obtain ⟨m, hm⟩ : ∃ m, m = ((full l).drop p).take 64 := ⟨_, rfl⟩
              rw [← hm] at hrow hml hcm
              have HCM := Lib.hid hcm
              have HF3 := Lib.hid hf
              have HP := Lib.hid hp
              have HP2 := Lib.hid hp2
              clear hm hcm hf hp hp2 hpn e3 hfm
              go_wp2_with fail
              refine wp_region_treeR true Old Old.refl Old.trans (.step 0 (.step 1 (.step 2 (.step 3 (.step 4 (.step 5 (.step 6 (.step 7 (.step 8 .done))))))))) (by kernel_rfl) (by kernel_rfl) (fun c a d v w h => by cases d <;> exact h) ?_
              refine tree_quiet (v := .agg (vA 8 fun j => wv (stt (full l) i j))) rfl rfl (by rfl) (fun W hW => exec_load_as 107 agg8 _ rfl rfl rfl (hJ.hst.drew.old hW).cells (vL_length _ _)) ?_
              simp only [Act.put, List.setIfInBounds_toArray, List.set]
              repeat (first | (refine tree_skip rfl (by rfl) ?_; simp only [Act.put, List.setIfInBounds_toArray, List.set]) | (refine tree_quiet (v := ?_) rfl rfl (by rfl) ?_ ?_; rotate_left; (intro W hW; go_simp); (try with_reducible rfl); simp only [Act.put, List.setIfInBounds_toArray, List.set]))
              refine tree_quiet (v := .agg (vA 64 fun j => wv (kwd j))) rfl rfl (by rfl) (fun W hW => exec_load_as 109 agg64 _ rfl rfl rfl (hJ.kst.drew.old hW).cells (vL_length _ _)) ?_
              simp only [Act.put, List.setIfInBounds_toArray, List.set]
              refine tree_loud rfl rfl (by rfl) (fun K hK => ?_); go_wp2_with fail
              refine (rblock_any (stt (full l) i) _ (c - p) m _ hrow.drew hml).mono ?_
              rintro e w8 ⟨rfl, hb8⟩
              go_wp2_with fail
              refine hK _ _ hb8 ?_
              clear hK K
              have hS8 := hJ.hst.drew.old hb8
              have hsz8 := hJ.below.size
              have hlt8 := hJ.hst.lt
              refine tree_store rfl rfl (by rfl) (fun K' hK' => ?_)
              refine wp_store_at 107 agg8 _ _ rfl rfl rfl hS8 (vA_size _ _) (by rw [vA_size]; omega) (vA_one fun _ _ => rfl) ?_
              refine hK' _ _ ?_
              clear hK'
              refine tree_done ?_
              rw [splice_whole _ _ (by rw [vA_size, vA_size])]
              refine g_forget (fun W0 => SrJ w1 B V Kb (stt (full l) (i + 1)) (full l) g W0) ⟨?_, (hS8.setRow _).ofV fun j hj => by rw [HCM.out j hj], (hJ.kst.drew.old hb8).setRow_other _ _ (by omega), below_setRow (hJ.below.drew.trans (hb8.mono (by simp; omega))) hBV _⟩ ?_
              · exact (hJ.row.drew.below hb8).grown (only_setRow (World.grownBy.refl _ _) _) (by simp; omega)
              clear hJ hb8 hS8 hsz8 hlt8 hcut hrow
              rintro w9 hJ
              go_wp2_with fail
              go_roundg (gk - 1)
              case rel =>
                have hf := HF3.out
                have hp := HP.out
                have hp2 := HP2.out
                exact ⟨i + 1, by omega, by go_num, hJ⟩
              case measure => have hf := HF3.out; omega
            · obtain rfl : i = N := by omega
              have hfm := HFM.out
              obtain ⟨p, hp⟩ : ∃ p, p = 64 * i := ⟨_, rfl⟩
              have hpI : 64 * (i : Int) = (p : Int) := by omega
              rw [hpI]
              have tt : decide (p < n) = false := by simp; omega
              have hE : stt (full l) i = endw l := by rw [endw, ← HFL.out, ← HN.out]
              rw [hE] at hJ
              obtain ⟨hrow, hS, hKs, hb⟩ := hJ
              clear hrow hKs hE hfm hf hpI hp
              go_wp2_with fail
              obtain ⟨O, hO⟩ : ∃ O, O = wr.heap.size := ⟨_, rfl⟩
              have hVO : V < O := by have := hS.lt; omega
              have hO0 := Blk.new wr (vA 32 fun _ => .int .u8 0) 48
              rw [← hO] at hO0 ⊢
              have hszb := hb.size
              refine wp_forget (fun W0 => Sr4 w1 B V O l 32 (.int .i64 0) W0) ⟨0, by omega, rfl, hS.alloc _, hO0.ofV fun j _ => by rw [if_neg (by omega)], hb.alloc (by omega) _⟩ ?_
              clear hO hO0 hS hb hszb
              rintro w8 hst
              go_loopg [10] 32 (Sr4 w1 B V O l)
              case atStart => exact hst
              case round =>
                clear hst
                obtain ⟨k, hf, rfl, hS, hO, hb⟩ := hrel
                by_cases hk : k < 32
                · have tk : decide ((k : Int) < 32) = true := by simp; omega
                  have hkI : (k : Int) < 32 := by omega
                  obtain ⟨p, hp⟩ : ∃ p, p = k / 4 := ⟨_, rfl⟩
                  have hpI : (k : Int) / 4 = (p : Int) := by omega
                  have hp8 : (p : Int) < 8 := by omega
                  obtain ⟨q, hq⟩ : ∃ q, q = k % 4 := ⟨_, rfl⟩
                  have hqI : (k : Int) % 4 = (q : Int) := by omega
                  obtain ⟨s, hs⟩ : ∃ s, s = 24 - 8 * q := ⟨_, rfl⟩
                  have hq4 : (q : Int) < 4 := by omega
                  have hsI : 24 - 8 * (q : Int) = (s : Int) := by omega
                  have hs24 : (s : Int) ≤ 24 := by omega
                  have c0 : wr.cell? ⟨V, p, none⟩ = some (.int .u32 (U32 (endw l p))) := hS.atV (by omega) rfl
                  have c1 := hO.atV hk rfl
                  have f1 := hO.free
                  have HF4 := Lib.hid hf
                  have HP := Lib.hid hp
                  have HQ := Lib.hid hq
                  have HSS := Lib.hid hs
                  clear hf hp hq hs
                  go_wp2_with fail
                  clear c0 c1 f1
                  go_roundg (gk - 1)
                  case rel =>
                    have := HF4.out
                    refine ⟨k + 1, by omega, by go_num, hS.other _ _ (by show V ≠ O; omega), (hO.setV hk _).ofV fun j _ => ?_, hb.setCell (by show B ≤ O; omega) _⟩
                    exact dg_step l j k _ (by rw [dgb, ← HQ.out, ← HSS.out, ← HP.out]; exact dg_byte _ s _ rfl)
                  case measure => have := HF4.out; omega
                · obtain rfl : k = 32 := by omega
                  have tk : decide (((32 : Nat) : Int) < 32) = false := by simp
                  replace hO := hO.ofV (g := fun j => bv (dgb l j)) fun j hj => if_pos hj
                  have hRR : Blk wr H (vA 32 fun _ => .int .u8 0) 48 := hR.below hb (by rw [HB.out]; omega)
                  clear hf hS
                  go_wp2_with (first | refine wpList_load_blk rfl 48 agg32 _ rfl rfl hO (vA_size _ _) ?_ | refine wpList_store_blk rfl 48 agg32 (.tmp 2) _ (cells := dgA l) rfl rfl rfl hRR (vA_size _ _) (vA_size _ _) (vA_one fun _ _ => rfl) ?_)
                  refine post_blk rfl agg32 rfl (hRR.setRow _) (vA_size _ _) rfl ⟨rfl, ?_⟩
                  exact below_setRow (hb0.trans (hb.mono (by rw [HB.out]; omega))) (Nat.le_refl _) _
    · have t56 : ((q : Int) != 56) = true := by simp; omega
      have hn1 : n < 140737488354000 := by omega
      have hzl : z < zN L := by omega
      clear hn hq hz hzn hZ
      go_wp2_with (at_builtin; refine wpList_append_row rfl (.tmp 21) (.tmp 22) 32 rfl bytesT3 rfl (hI.own.alloc _) rfl (RowAt.new' _ _ _ _ (by simp)) (by rfl) (by exact all_one _ rfl) (by unfold maxLen; omega) (by omega) (by simp; omega) ?_)
      intro a4 c4 w4 own4 hg4
      have hb4 := (hI.own.alloc (.cells #[Value.int .u8 0] 5)).grown (hI.below.alloc (by omega) _) (Nat.le_refl _) hg4 (by simp; omega)
      clear hg4
      go_wp2_with fail
      go_roundg (gk - 1)
      case rel =>
        have hf := HF.out
        have hn := HN.out
        refine ⟨z + 1, n + 1, a4, c4, by omega, by omega, rfl, ⟨?_, hb4⟩⟩
        rw [pdl_succ, List.map_append]; exact own4
      case measure => have hf := HF.out; omega
end Go.Proofs.Ytdokkhjgmhcpkaa
