/- Bytes checked as a token's, as the document has it: walked. -/
import Derived.Test.YtlhemmlmhgjodaaTokCheck
namespace Go.Proofs.Ytlhemmlmhgjodaa
open Go.RowKit

theorem or_i64' (x : BitVec 64) (y : UInt8) : bits .or .i64 (IntKind.i64.wrap (I64 x * 256)) (IntKind.i64.wrap (U8 y)) = I64 ((x <<< 8) ||| y.toBitVec.setWidth 64) := by
  have e : ∀ z, IntKind.i64.wrap z = wrap64 z := fun z => by rw [IntKind.wrap_i64, wrap64]
  rw [e, e, or_i64]
theorem tokB_head (k : List UInt8) (t : Tok) : (tokB k t).getD 0 0 = UInt8.ofNat t.name.length := by simp [tokB, tokHead]
theorem tokMake_len (k b : List UInt8) (t : Tok) (h : tokMake k t = (b, 0)) : b.length = 42 + (b.getD 0 0).toNat := by
  obtain ⟨_, h2, h3⟩ := tokMake_ok k t b h
  have := tokMay_le t h2
  rw [h3, tokB_length, tokB_head, UInt8.toNat_ofNat']
  omega
/-- What is read where the length is right. -/
theorem tokRead_at (b : List UInt8) (n : Nat) (hn : (b.getD 0 0).toNat = n) (hl : b.length = 42 + n) : tokRead b = ⟨(b.drop 1).take n, IntKind.i8.wrap (U8 (b.getD (1 + n) 0)), numI ((b.drop (2 + n)).take 8)⟩ := by
  have h1 : b.take 1 = [b.getD 0 0] := by
    cases b with
    | nil => simp only [List.length_nil] at hl; omega
    | cons y r => rfl
  have h2 : numI (b.take 1) = (n : Int) := by rw [h1, num1, hn]
  have h3 : (((b.drop 1).drop n).take 1) = [b.getD (1 + n) 0] := by
    rw [List.drop_drop, List.take_one]
    simp [show 1 + n < b.length by omega]
  have h4 : ((b.drop 1).drop n).drop 1 = b.drop (2 + n) := by rw [List.drop_drop, List.drop_drop]; congr 1; omega
  unfold tokRead
  simp only [h2, Int.toNat_natCast, h3, num1, h4]
  rfl
def Rc1 (w : World) (H G : Nat) (s : ByteArray) (r : Int) (l : List UInt8) (f : Nat) (i : Value) (wr : World) : Prop :=
  ∃ t : Nat, f + t = 8 ∧ i = .int .i64 (t : Int) ∧ Blk wr H (tokC ze 0 0) 25 ∧ Blk wr G (tokC s r (I64 (numW (l.take t)))) 25 ∧ Below H w wr
set_option maxHeartbeats 4000000 in
set_option maxRecDepth 100000 in
theorem rcheck_any (k b : List UInt8) (ka : Option Addr) (kn kc : Nat) (ba : Option Addr) (bn bc : Nat) (now : Int) (w : World) (hk : BytesAt w ka k) (hkl : k.length = kn) (hb : BytesAt w ba b) (hbl : b.length = bn) (hb1 : bn ≤ bc) :
    Calls Try.prog 13 #[.slice ka kn kc, .slice ba bn bc, .int .i64 now] w (ChkP w k b now) := by
  have HK := Lib.hid hkl
  have HB := Lib.hid hbl
  have hk0 := Lib.hid hk
  have hb0 := Lib.hid hb
  obtain ⟨H, hH⟩ : ∃ H, H = w.heap.size := ⟨_, rfl⟩
  have HH := Lib.hid hH
  have hR0 := Blk.new w (tokC ze 0 0) 25
  have hw0 := (Below.refl w.heap.size w).alloc (Nat.le_refl _) (.cells (tokC ze 0 0) 25)
  rw [← hH] at hR0 hw0
  clear hkl hbl hk hb hH
  by_cases hbig : 65536 < kn
  · have t1 : decide (65536 < kn) = true := decide_eq_true hbig
    have t2 : decide ((65536 : Int) < (kn : Int)) = true := decide_eq_true (by omega)
    have hv := tokCheck_long k b now (by rw [HK.out]; exact hbig)
    have HV := Lib.hid hv
    clear hv
    go_enter Try.func13, Try.ntmps13
    go_upto_region 1 with fail
    rw [← HH.out]
    refine wp_forget (fun W0 => Blk W0 H (tokC ze 0 0) 25 ∧ Below H w W0) ⟨hR0, hw0⟩ ?_
    clear hR0 hw0
    rintro w1 ⟨hR, hw⟩
    go_wp2_with (refine wpList_store_blk rfl 25 aggTok (.tmp 6) _ (cells := tokC ze 0 0) rfl rfl rfl hR rfl rfl rfl ?_)
    exact post_blk_tmp rfl aggTok rfl (hR.setRow _) rfl rfl rfl ⟨by rw [HV.out]; rfl, HH.out ▸ below_setRow hw (Nat.le_refl _) _⟩
  · have t1 : decide (65536 < kn) = false := decide_eq_false hbig
    have t2 : decide ((65536 : Int) < (kn : Int)) = false := decide_eq_false (by omega)
    by_cases hz : bn < 1
    · have t3 : decide (bn < 1) = true := decide_eq_true hz
      have t4 : decide ((bn : Int) < 1) = true := decide_eq_true (by omega)
      have hv := tokCheck_bad k b now (by rw [HK.out]; omega) (fun e => by have := tokMake_len k b _ e; rw [HB.out] at this; omega)
      have HV := Lib.hid hv
      clear hv
      go_enter Try.func13, Try.ntmps13
      go_upto_region 1 with fail
      rw [← HH.out]
      refine wp_forget (fun W0 => Blk W0 H (tokC ze 0 0) 25 ∧ Below H w W0) ⟨hR0, hw0⟩ ?_
      clear hR0 hw0
      rintro w1 ⟨hR, hw⟩
      go_wp2_with (refine wpList_store_blk rfl 25 aggTok (.tmp 6) _ (cells := tokC ze 0 0) rfl rfl rfl hR rfl rfl rfl ?_)
      exact post_blk_tmp rfl aggTok rfl (hR.setRow _) rfl rfl rfl ⟨by rw [HV.out]; rfl, HH.out ▸ below_setRow hw (Nat.le_refl _) _⟩
    · have t3 : decide (bn < 1) = false := decide_eq_false hz
      have t4 : decide ((bn : Int) < 1) = false := decide_eq_false (by omega)
      have hbr := hb0.out.alloc (.cells (tokC ze 0 0) 25)
      obtain ⟨g, o, rfl, hc0⟩ := hbr.cellAt 0 (by rw [HB.out]; omega)
      obtain ⟨n, hn⟩ : ∃ n, n = (b.getD 0 0).toNat := ⟨_, rfl⟩
      have hc0' : (w.alloc (.cells (tokC ze 0 0) 25)).cell? ⟨g, o, none⟩ = some (.int .u8 (n : Int)) := by rw [hn]; exact hc0
      have hn255 : n ≤ 255 := by have : (b.getD 0 0).toNat < 256 := (b.getD 0 0).toBitVec.isLt; omega
      have HN := Lib.hid hn
      clear hn hc0
      by_cases hne : bn = 42 + n
      · have x1 : ((bn : Int) == 42 + (n : Int)) = true := by simp; omega
        have x2 : ((bn : Int) != 42 + (n : Int)) = false := by rw [bne, x1]; rfl
        have HNE := Lib.hid hne
        have hT := tokRead_at b n HN.out.symm (by rw [HB.out]; exact hne)
        obtain ⟨T, hTe⟩ : ∃ T, T = tokRead b := ⟨_, rfl⟩
        rw [← hTe] at hT
        have HTE := Lib.hid hTe
        have HT := Lib.hid hT
        clear hT hTe hne
        have hnb : bn ≤ 300 := by have := HNE.out; omega
        go_enter Try.func13, Try.ntmps13
        go_upto_region 1 with fail
        rw [← HH.out]
        refine wp_forget (fun W0 => Blk W0 H (tokC ze 0 0) 25 ∧ Below H w W0 ∧ W0.cell? ⟨g, o, none⟩ = some (.int .u8 (n : Int)) ∧ BytesAt W0 (some ⟨g, o, none⟩) b) ⟨hR0, hw0, hc0', hbr⟩ ?_
        clear hR0 hw0 hc0' hbr
        rintro w1 ⟨hR, hw, hc, hbr⟩
        go_upto_region 6 with fail
        clear hc x1 x2
        have hlt := hR.lt
        obtain ⟨y, hy⟩ : ∃ y, y = b.getD (1 + n) 0 := ⟨_, rfl⟩
        have hrole : T.role = IntKind.i8.wrap (U8 y) := by rw [HT.out, hy]
        have c1 : w1.cell? ⟨g, o + (1 + n), none⟩ = some (.int .u8 (U8 y)) := by
          obtain ⟨b', o', e, hc⟩ := hbr.cellAt (1 + n) (by rw [HB.out]; have := HNE.out; omega)
          cases e
          rw [hc, hy]
        have HRO := Lib.hid hrole
        clear hrole hy
        have hnm : BytesAt w1 (some ⟨g, o + 1, none⟩) ((b.drop 1).take n) := by
          have := (RowAt.drop 1 hbr).take n
          unfold BytesAt
          rw [List.map_take, List.map_drop]; exact this
        have s1 : ∀ W, Old w1.drew W → (convert 22 9 (.slice (some ⟨g, o + 1, none⟩) n (bc - 1))).run Try.prog W = .ok (.string (strOf T.name)) W := fun W hW => by
          have hl : ((b.drop 1).take n).length = n := by rw [List.length_take, List.length_drop, HB.out]; have := HNE.out; omega
          rw [HT.out]
          exact run_string_of W Try.underlying22 Try.underlying5 Try.underlying9 (hnm.drew.below hW) hl
        have S1 := Lib.hid s1
        have C1 : Hid (∀ W, Old w1.drew W → W.cell? ⟨g, o + (1 + n), none⟩ = some (.int .u8 (U8 y))) := Lib.hid fun W hW => by
          rw [hW.cell (show g < w1.drew.heap.size from World.block_lt_of_cell? w1 _ c1)]; exact c1
        clear c1
        have e1 : IntKind.i64.wrap (1 + (n : Int)) = 1 + (n : Int) := IntWalk.i64_in _ (by omega)
        have e2 : (1 : Int) ≤ 1 + (n : Int) := by omega
        have e3 : 1 + (n : Int) ≤ (bc : Int) := by have := HNE.out; omega
        have e4 : (1 + (n : Int)).toNat = 1 + n := by omega
        have e5 : ¬ bc = 1 := by have := HNE.out; omega
        have e6 : 1 + (n : Int) < (bn : Int) := by have := HNE.out; omega
        have e7 : (0 : Int) ≤ 1 + (n : Int) := by omega
        have hbr0 := Lib.hid hbr
        clear hnm s1 hbr
        go_cut [9] (fun v wx => ∃ G, v = .pointer (some ⟨G, 0, none⟩) ∧ H < G ∧ Blk wx H (tokC ze 0 0) 25 ∧ Blk wx G (tokC (strOf T.name) T.role 0) 25 ∧ Below H w wx)
        case first =>
          refine wp_region_treeR true Old Old.refl Old.trans (.step 0 (.step 1 (.step 2 (.step 3 (.step 4 (.step 5 (.step 6 (.step 7 (.step 8 (.step 9 (.step 10 (.step 11 (.step 12 (.step 13 .done)))))))))))))) (by kernel_rfl) (by kernel_rfl) (fun c a d v w h => by cases d <;> exact h) ?_
          repeat (first | (refine tree_skip rfl (by rfl) ?_; simp only [Act.put, List.setIfInBounds_toArray, List.set]) | (refine tree_quiet (v := ?_) rfl rfl (by rfl) ?_ ?_; rotate_left; (intro W hW; go_simp); (try with_reducible rfl); simp only [Act.put, List.setIfInBounds_toArray, List.set]))
          refine tree_quiet (v := .string (strOf T.name)) rfl rfl (by rfl) (fun W hW => by have := S1.out W hW; go_simp) ?_
          simp only [Act.put, List.setIfInBounds_toArray, List.set]
          repeat (first | (refine tree_skip rfl (by rfl) ?_; simp only [Act.put, List.setIfInBounds_toArray, List.set]) | (refine tree_quiet (v := ?_) rfl rfl (by rfl) ?_ ?_; rotate_left; (intro W hW; go_simp); (try with_reducible rfl); simp only [Act.put, List.setIfInBounds_toArray, List.set]))
          refine tree_quiet (v := .int .u8 (U8 y)) rfl rfl (by rfl) (fun W hW => by have c2 : W.cell? ⟨g, o + (1 + n), none⟩ = some (.int .u8 (U8 y)) := (C1.out W hW); go_simp) ?_
          simp only [Act.put, List.setIfInBounds_toArray, List.set]
          repeat (first | (refine tree_skip rfl (by rfl) ?_; simp only [Act.put, List.setIfInBounds_toArray, List.set]) | (refine tree_quiet (v := ?_) rfl rfl (by rfl) ?_ ?_; rotate_left; (intro W hW; go_simp); (try with_reducible rfl); simp only [Act.put, List.setIfInBounds_toArray, List.set]))
          refine tree_loud rfl rfl (by rfl) (fun K hK => ?_); go_wp2_with fail
          refine hK _ _ ((Below.refl _ _).alloc (Nat.le_refl _) _) ?_
          clear hK K
          refine tree_store rfl rfl (by rfl) (fun K hK => ?_); go_wp2_with fail; refine tree_done ?_
          go_wp2_with fail
          go_meet
          have hN := (Blk.new w1 (tokC (strOf T.name) T.role 0) 25).drew
          rw [HRO.out] at hN ⊢
          exact ⟨w1.heap.size, rfl, hlt, (hR.alloc _).drew, hN, (hw.alloc (by omega) _).drew⟩
        case rest =>
          obtain ⟨G, rfl, hHG, hR, hG, hw⟩ := hcut
          clear e1 e2 e3 e4 e5 e6 e7 S1 C1 hlt
          go_wp2_with fail
          obtain ⟨l, hl⟩ : ∃ l, l = (b.drop (2 + n)).take 8 := ⟨_, rfl⟩
          have HLL := Lib.hid hl
          have hst : Rc1 w H G (strOf T.name) T.role l 8 (.int .i64 0) wc := ⟨0, by omega, rfl, hR, by simpa [numW, I64] using hG, hw⟩
          clear hl hR hG hw
          go_loopg [10] 8 (Rc1 w H G (strOf T.name) T.role l)
          case atStart => exact hst
          case round =>
            clear hst
            obtain ⟨t, hf, rfl, hR, hG, hw⟩ := hrel
            have HF := Lib.hid hf
            clear hf
            have hbr := hb0.out.below (HH.out ▸ hw)
            by_cases ht : t < 8
            · have tt : decide ((t : Int) < 8) = true := decide_eq_true (by omega)
              have htI : (t : Int) < 8 := by omega
              obtain ⟨b', o', e, hc⟩ := hbr.cellAt (2 + n + t) (by rw [HB.out]; have := HNE.out; omega)
              cases e
              obtain ⟨y, hy⟩ : ∃ y, y = b.getD (2 + n + t) 0 := ⟨_, rfl⟩
              have hlt : l.take (t + 1) = l.take t ++ [y] := by
                have h8 : l.length = 8 := by rw [HLL.out, List.length_take, List.length_drop, HB.out]; have := HNE.out; omega
                rw [List.take_succ_eq_append_getElem (by rw [h8]; exact ht), hy]
                congr 2
                simp only [HLL.out, List.getElem_take, List.getElem_drop, List.getD_eq_getElem?_getD]
                rw [List.getElem?_eq_getElem (by rw [HB.out]; have := HNE.out; omega)]
                rfl
              rw [← hy] at hc
              have HLT := Lib.hid hlt
              have C1 : Hid (∀ W, Old wr.drew W → W.cell? ⟨g, o + (2 + n + t), none⟩ = some (.int .u8 (U8 y))) := Lib.hid fun W hW => by
                rw [hW.cell (show g < wr.drew.heap.size from World.block_lt_of_cell? wr _ hc)]; exact hc
              obtain ⟨x, hx⟩ : ∃ x, x = numW (l.take t) := ⟨_, rfl⟩
              rw [← hx] at hG
              have C2 : Hid (∀ W, Old wr.drew W → W.cell? ⟨G, 2, none⟩ = some (.int .i64 (I64 x))) := Lib.hid fun W hW => by
                rw [hW.cell (show G < wr.drew.heap.size from hG.lt)]; exact hG.cell rfl
              have HX := Lib.hid hx
              have f0 := hG.drew.free
              have c2 : wr.drew.cell? ⟨G, 2, none⟩ = some (.int .i64 (I64 x)) := hG.cell rfl
              clear hc hy hlt hx hbr
              have e1 : IntKind.i64.wrap (2 + (n : Int)) = 2 + (n : Int) := IntWalk.i64_in _ (by omega)
              have e2 : IntKind.i64.wrap (2 + (n : Int) + (t : Int)) = 2 + (n : Int) + (t : Int) := IntWalk.i64_in _ (by omega)
              have e3 : (0 : Int) ≤ 2 + (n : Int) + (t : Int) := by omega
              have e4 : 2 + (n : Int) + (t : Int) < (bn : Int) := by have := HNE.out; omega
              have e5 : (2 + (n : Int) + (t : Int)).toNat = 2 + n + t := by omega
              go_upto_region 10 with fail
              refine wp_region_treeR true Old Old.refl Old.trans (.step 0 (.step 1 (.step 2 (.step 3 (.step 4 (.step 5 (.step 6 (.step 7 (.step 8 (.step 9 (.step 10 (.step 11 (.step 12 (.step 13 .done)))))))))))))) (by kernel_rfl) (by kernel_rfl) (fun c a d v w h => by cases d <;> exact h) ?_
              repeat (first | (refine tree_skip rfl (by rfl) ?_; simp only [Act.put, List.setIfInBounds_toArray, List.set]) | (refine tree_quiet (v := ?_) rfl rfl (by rfl) ?_ ?_; rotate_left; (intro W hW; go_simp); (try with_reducible rfl); simp only [Act.put, List.setIfInBounds_toArray, List.set]))
              refine tree_quiet (v := .int .i64 (I64 x)) rfl rfl (by rfl) (fun W hW => by have c2 := (C2.out W hW); go_simp) ?_
              simp only [Act.put, List.setIfInBounds_toArray, List.set]
              repeat (first | (refine tree_skip rfl (by rfl) ?_; simp only [Act.put, List.setIfInBounds_toArray, List.set]) | (refine tree_quiet (v := ?_) rfl rfl (by rfl) ?_ ?_; rotate_left; (intro W hW; go_simp); (try with_reducible rfl); simp only [Act.put, List.setIfInBounds_toArray, List.set]))
              refine tree_quiet (v := .int .u8 (U8 y)) rfl rfl (by rfl) (fun W hW => by have c2 := (C1.out W hW); go_simp) ?_
              simp only [Act.put, List.setIfInBounds_toArray, List.set]
              repeat (first | (refine tree_skip rfl (by rfl) ?_; simp only [Act.put, List.setIfInBounds_toArray, List.set]) | (refine tree_quiet (v := ?_) rfl rfl (by rfl) ?_ ?_; rotate_left; (intro W hW; go_simp); (try with_reducible rfl); simp only [Act.put, List.setIfInBounds_toArray, List.set]))
              rw [or_i64']
              refine tree_store rfl rfl (by rfl) (fun K hK => ?_); go_wp2_with fail; refine tree_done ?_
              clear c2 f0
              go_wp2_with fail
              go_roundg (gk - 1)
              case rel =>
                refine ⟨t + 1, by have := HF.out; omega, by go_num, (hR.other _ _ (by show H ≠ G; omega)).drew, ?_, (hw.setCell (by show H ≤ G; omega) _).drew⟩
                rw [HLT.out, numW_snoc, ← HX.out]
                exact (hG.set 2 _).drew
              case measure => have := HF.out; omega
            · obtain rfl : t = 8 := by have := HF.out; omega
              have tt : decide (((8 : Nat) : Int) < 8) = false := by simp
              have htil : T.til = I64 (numW (l.take 8)) := by
                rw [HT.out, HLL.out, List.take_take]; rfl
              rw [← htil] at hG
              clear htil
              have hwf : TokWf T := HTE.out ▸ tokRead_wf b
              have hmk := fun W hh => rmake_any k ka kn kc T W hh HK.out hwf
              have etv : tokV T = .agg (tokC (strOf T.name) T.role T.til) := rfl
              rw [etv] at hmk
              have HMK := Lib.hid hmk
              clear hmk etv
              have hkr := hk0.out.below (HH.out ▸ hw)
              go_wp2_with (refine wpList_load_blk rfl 25 aggTok _ rfl rfl hG rfl ?_)
              refine (HMK.out _ hkr).mono ?_
              clear hkr
              unfold MakP
              rintro e w9 ⟨ma, mn, mc, L, er, rfl, hml, hll, hmr, hb9, hmc⟩
              have hR9 := hR.old hb9
              have hT9 := hG.old hb9
              have hw9 := hw.trans (hb9.mono (by have := hR.lt; omega))
              have hbr9 := hbr.below hb9
              have HML := Lib.hid hml
              clear hR hG hw hb9 HMK hml hbr
              by_cases hmay : tokMay T = true
              · have hmm := HML.out
                rw [tokMake_may k T (by rw [HK.out]; omega) hmay] at hmm
                obtain ⟨hL, rfl⟩ := Prod.mk.inj hmm
                have HLb := Lib.hid hL
                clear hmm hL
                have s1 := run_string_of (P := Try.prog) w9 (src := 22) (dst := 9) (e := 5) (c := mc) Try.underlying22 Try.underlying5 Try.underlying9 hmr hll
                have s2 := run_string_of (P := Try.prog) w9 (src := 22) (dst := 9) (e := 5) (c := bc) Try.underlying22 Try.underlying5 Try.underlying9 hbr9 HB.out
                obtain ⟨D, hDD⟩ : ∃ D, D = decide (L = b) := ⟨_, rfl⟩
                have HDD := Lib.hid hDD
                have hD : ((strOf L).toList == (strOf b).toList) = D := by rw [strOf_toList, strOf_toList, hDD, Bool.eq_iff_iff]; simp
                have hD2 : ((strOf L).toList != (strOf b).toList) = !D := by rw [bne, hD]
                clear hDD hll
                cases D with
                | false =>
                  have hne : L ≠ b := fun e => by
                    have := HDD.out
                    rw [decide_eq_true e] at this
                    cases this
                  have hv := tokCheck_bad k b now (by rw [HK.out]; omega) (fun e => hne (by rw [← HTE.out] at e; rw [← HLb.out, ← (tokMake_ok k T b e).2.2]))
                  have HV := Lib.hid hv
                  clear hv hne
                  go_wp2_with (refine wpList_store_blk rfl 25 aggTok (.tmp 6) _ (cells := tokC ze 0 0) rfl rfl rfl hR9 rfl rfl rfl ?_)
                  exact post_blk_tmp rfl aggTok rfl (hR9.setRow _) rfl rfl rfl ⟨by rw [HV.out]; rfl, HH.out ▸ below_setRow hw9 (Nat.le_refl _) _⟩
                | true =>
                  have heq : L = b := by
                    have := HDD.out
                    exact of_decide_eq_true this.symm
                  have hmk : tokMake k (tokRead b) = (b, 0) := by rw [← HTE.out, tokMake_may k T (by rw [HK.out]; omega) hmay, HLb.out, heq]
                  have c0 : w9.cell? ⟨G, 2, none⟩ = some (.int .i64 T.til) := hT9.cell rfl
                  by_cases hlate : T.til < now
                  · have t5 : decide (T.til < now) = true := decide_eq_true hlate
                    have hv := tokCheck_late k b now (by rw [HK.out]; omega) hmk (by rw [← HTE.out]; exact hlate)
                    have HV := Lib.hid hv
                    clear hv hmk heq
                    go_wp2_with (refine wpList_store_blk rfl 25 aggTok (.tmp 6) _ (cells := tokC ze 0 0) rfl rfl rfl hR9 rfl rfl rfl ?_)
                    exact post_blk_tmp rfl aggTok rfl (hR9.setRow _) rfl rfl rfl ⟨by rw [HV.out]; rfl, HH.out ▸ below_setRow hw9 (Nat.le_refl _) _⟩
                  · have t5 : decide (T.til < now) = false := decide_eq_false hlate
                    have hv := tokCheck_good k b now (by rw [HK.out]; omega) hmk (by rw [← HTE.out]; exact hlate)
                    rw [← HTE.out] at hv
                    have HV := Lib.hid hv
                    clear hv hmk heq
                    go_wp2_with (first | refine wpList_load_blk rfl 25 aggTok _ rfl rfl hT9 rfl ?_ | refine wpList_store_blk rfl 25 aggTok (.tmp 6) _ (cells := tokC (strOf T.name) T.role T.til) rfl rfl rfl hR9 rfl rfl rfl ?_)
                    exact post_blk_tmp rfl aggTok rfl (hR9.setRow _) rfl rfl rfl ⟨by rw [HV.out]; rfl, HH.out ▸ below_setRow hw9 (Nat.le_refl _) _⟩
              · have hmm := HML.out
                rw [tokMake, if_neg (by rw [HK.out]; omega), if_neg hmay] at hmm
                obtain ⟨rfl, rfl⟩ := Prod.mk.inj hmm
                clear hmm
                have hv := tokCheck_bad k b now (by rw [HK.out]; omega) (fun e => hmay (by rw [← HTE.out] at e; exact (tokMake_ok k T b e).2.1))
                have HV := Lib.hid hv
                clear hv hmay
                go_wp2_with (refine wpList_store_blk rfl 25 aggTok (.tmp 6) _ (cells := tokC ze 0 0) rfl rfl rfl hR9 rfl rfl rfl ?_)
                exact post_blk_tmp rfl aggTok rfl (hR9.setRow _) rfl rfl rfl ⟨by rw [HV.out]; rfl, HH.out ▸ below_setRow hw9 (Nat.le_refl _) _⟩
      · have x1 : ((bn : Int) == 42 + (n : Int)) = false := by simp; omega
        have x2 : ((bn : Int) != 42 + (n : Int)) = true := by rw [bne, x1]; rfl
        have hv := tokCheck_bad k b now (by rw [HK.out]; omega) (fun e => hne (by have := tokMake_len k b _ e; rw [HB.out, ← HN.out] at this; exact this))
        have HV := Lib.hid hv
        clear hv
        go_enter Try.func13, Try.ntmps13
        go_upto_region 1 with fail
        rw [← HH.out]
        refine wp_forget (fun W0 => Blk W0 H (tokC ze 0 0) 25 ∧ Below H w W0 ∧ W0.cell? ⟨g, o, none⟩ = some (.int .u8 (n : Int))) ⟨hR0, hw0, hc0'⟩ ?_
        clear hR0 hw0 hc0' hbr
        rintro w1 ⟨hR, hw, hc⟩
        go_wp2_with (refine wpList_store_blk rfl 25 aggTok (.tmp 6) _ (cells := tokC ze 0 0) rfl rfl rfl hR rfl rfl rfl ?_)
        exact post_blk_tmp rfl aggTok rfl (hR.setRow _) rfl rfl rfl ⟨by rw [HV.out]; rfl, HH.out ▸ below_setRow hw (Nat.le_refl _) _⟩
end Go.Proofs.Ytlhemmlmhgjodaa
