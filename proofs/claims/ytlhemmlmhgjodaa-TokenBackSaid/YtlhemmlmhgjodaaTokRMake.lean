/- Tokens made as the document has it: walked. -/
import Derived.Test.YtlhemmlmhgjodaaTokMake
namespace Go.Proofs.Ytlhemmlmhgjodaa
open Go.RowKit

def Rn1 (w : World) (H : Nat) (s : ByteArray) (r : Int) (N : Nat) (l : List UInt8) (f : Nat) (v i : Value) (wr : World) : Prop :=
  ∃ (t : Nat) (a : Option Addr) (c : Nat), f + t = 8 ∧ i = .int .i64 (7 - (t : Int)) ∧ v = .slice a (l.length + t) c ∧ TmI w H s r (N : Int) (l ++ (be64 N).take t) a c wr
def Rn2 (w : World) (H : Nat) (s : ByteArray) (r : Int) (N G : Nat) (l m : List UInt8) (f : Nat) (v i : Value) (wr : World) : Prop :=
  ∃ (t : Nat) (a : Option Addr) (c : Nat), f + t = 32 ∧ i = .int .i64 (t : Int) ∧ v = .slice a (l.length + t) c ∧ TmI w H s r (N : Int) (l ++ (dgl m).take t) a c wr ∧ Blk wr G (dgA m) 32
theorem dgl_take32 (m : List UInt8) (t : Nat) (h : t < 32) : (dgl m).take (t + 1) = (dgl m).take t ++ [dgb m t] := by
  rw [List.take_succ_eq_append_getElem (by rw [dgl_length]; exact h)]
  simp [dgl]
theorem dgl_take_len (m : List UInt8) (t : Nat) (h : t ≤ 32) : ((dgl m).take t).length = t := by rw [List.length_take, dgl_length]; omega
set_option maxHeartbeats 4000000 in
set_option maxRecDepth 100000 in
theorem rmake_any (k : List UInt8) (ka : Option Addr) (kn kc : Nat) (t : Tok) (w : World) (hk : BytesAt w ka k) (hkl : k.length = kn) (hw : TokWf t) :
    Calls Try.prog 8 #[.slice ka kn kc, tokV t] w (MakP w k t) := by
  have HK := Lib.hid hkl
  have hk0 := Lib.hid hk
  obtain ⟨H, hH⟩ : ∃ H, H = w.heap.size := ⟨_, rfl⟩
  have HH := Lib.hid hH
  clear hkl hk hH
  obtain ⟨name, role, til⟩ := t
  obtain ⟨T, hT⟩ : ∃ T, T = (⟨name, role, til⟩ : Tok) := ⟨_, rfl⟩
  have HT := Lib.hid hT
  obtain ⟨s, hs⟩ : ∃ s, s = strOf name := ⟨_, rfl⟩
  have HS := Lib.hid hs
  have htv : tokV T = .agg (tokC s role til) := by rw [hT, hs]; rfl
  rw [← hT] at hw ⊢
  rw [htv]
  have HTV := Lib.hid htv
  have HW := Lib.hid hw
  clear hT hs htv hw
  unfold tokC
  by_cases hbig : 65536 < kn
  · have t1 : decide (65536 < kn) = true := decide_eq_true hbig
    have t2 : decide ((65536 : Int) < (kn : Int)) = true := decide_eq_true (by omega)
    go_enter Try.func8, Try.ntmps8
    go_wp2_with fail
    go_ret2
    exact ⟨none, 0, 0, [], 3, rfl, by rw [tokMake, if_pos (by rw [HK.out]; exact hbig)], rfl, RowAt.nil _ _, (Below.refl _ _).alloc (Nat.le_refl _) _, Nat.le_refl _⟩
  · have t1 : decide (65536 < kn) = false := decide_eq_false hbig
    have t2 : decide ((65536 : Int) < (kn : Int)) = false := decide_eq_false (by omega)
    have hB0 := Blk.new w (tokC s role til) 25
    rw [← HH.out] at hB0
    unfold tokC at hB0
    have hmay := fun W => rmay_any T HW.out W
    rw [HTV.out] at hmay
    unfold tokC at hmay
    have HMAY := Lib.hid hmay
    clear hmay
    obtain ⟨M, hM⟩ : ∃ M, M = tokMay T := ⟨_, rfl⟩
    rw [← hM] at HMAY
    have HM := Lib.hid hM
    clear hM
    go_enter Try.func8, Try.ntmps8
    go_wp2_with fail
    refine (HMAY.out _).mono ?_
    unfold BoolP
    rintro e w1 ⟨rfl, hb1⟩
    have hB1 := hB0.old hb1
    have hw1 : Below H w w1 := by
      have := (Below.refl w.heap.size w).alloc (Nat.le_refl _) (.cells (tokC s role til) 25)
      rw [← HH.out] at this
      exact this.trans (hb1.mono (by rw [HH.out]; simp))
    clear hB0 hb1 HMAY
    refine g_forget (fun W0 => Blk W0 H (tokC s role til) 25 ∧ Below H w W0) ⟨hB1, hw1⟩ ?_
    clear hB1 hw1
    rintro w2 ⟨hB, hw⟩
    cases M with
    | false =>
      go_wp2_with fail
      go_ret2
      exact ⟨none, 0, 0, [], 2, rfl, by rw [tokMake, if_neg (by rw [HK.out]; omega), if_neg (by rw [← HM.out]; simp)], rfl, RowAt.nil _ _, HH.out ▸ hw, Nat.le_refl _⟩
    | true =>
      have hmm := HM.out.symm
      rw [HT.out, tokMay, decide_eq_true_eq] at hmm
      simp only at hmm
      obtain ⟨m1, m2, m3, m4, m5, m6⟩ := hmm
      obtain ⟨N, rfl⟩ : ∃ N : Nat, til = (N : Int) := ⟨til.toNat, by omega⟩
      obtain ⟨R, rfl⟩ : ∃ R : Nat, role = (R : Int) := ⟨role.toNat, by omega⟩
      have hsz : s.size = name.length := by rw [HS.out, strOf_size]
      rw [← hsz] at m1 m2
      have hszI : (s.size : Int) ≤ 40 := by omega
      have HSZ := Lib.hid hsz
      have hsl : strL s = name := by rw [HS.out]; rfl
      have HSL := Lib.hid hsl
      clear hsz hsl
      have c0 : w2.cell? ⟨H, 0, none⟩ = some (.string s) := hB.cell rfl
      have hlt := hB.lt
      have hlit := Own.lit (w := w2) (B := H + 1) (e := 5) #[.int .u8 (s.size : Int)] [.int .u8 (s.size : Int)] 1 rfl rfl (by omega) (by unfold maxLen; omega)
      have hI0 : TmI w H s (R : Int) (N : Int) [UInt8.ofNat s.size] (some ⟨w2.heap.size, 0, none⟩) 1 (w2.alloc (.cells #[.int .u8 (s.size : Int)] 5)) := ⟨hB.alloc _, by
        have e : bv (UInt8.ofNat s.size) = .int .u8 (s.size : Int) := by simp only [bv, U8, UInt8.toNat_ofNat']; rw [Nat.mod_eq_of_lt (by omega)]
        simpa [e] using hlit, hw.alloc (by omega) _⟩
      clear hlit hB hw
      rw [← HH.out]
      go_wp2_with (at_builtin; refine wpList_append_str rfl (.tmp 21) (.tmp 23) 22 9 rfl bytesT3 u8Zero Try.underlying9 rfl hI0.own rfl (by first | omega | (simp; omega)) (by first | omega | (simp; omega)) ?_)
      intro a4 c4 w4 own4 hg4
      have hI4 := hI0.app (strL s) s.size (strL_length s) own4 hg4
      have hle4 := hI4.lt
      clear own4 hg4 hI0 c0 hlt
      have c1 : w4.cell? ⟨H, 1, none⟩ = some (.int .i8 (R : Int)) := hI4.tok.cell rfl
      have hlen4 : ([UInt8.ofNat s.size] ++ strL s).length = 1 + s.size := by simp [strL_length]; omega
      have hJ := (hI4.old ((Below.refl w4.heap.size w4).alloc (Nat.le_refl _) (.cells #[.int .u8 (R : Int)] 5)))
      have hown := hJ.own
      rw [hlen4] at hown
      go_wp2_with (at_builtin; refine wpList_append_row rfl (.tmp 25) (.tmp 29) 22 rfl bytesT3 rfl hown rfl (RowAt.new' _ _ _ _ (by simp)) (by rfl) (by exact all_one _ rfl) (by unfold maxLen; omega) (by omega) (by simp; omega) ?_)
      intro a5 c5 w5 own5 hg5
      have hbR : bv (UInt8.ofNat R) = .int .u8 (R : Int) := by simp only [bv, U8, UInt8.toNat_ofNat']; rw [Nat.mod_eq_of_lt (by omega)]
      have hI5 := hJ.app (wq := w5) (a' := a5) (c' := c5) [UInt8.ofNat R] 1 rfl (by rw [hlen4]; simpa [hbR] using own5) (by rw [hlen4]; exact hg5)
      clear own5 hg5 hJ hown hI4 c1 hle4
      obtain ⟨hd, hhd⟩ : ∃ hd, hd = [UInt8.ofNat s.size] ++ strL s ++ [UInt8.ofNat R] := ⟨_, rfl⟩
      rw [← hhd] at hI5
      have hln : hd.length = 1 + s.size + 1 := by rw [hhd, List.length_append, List.length_append, strL_length]; rfl
      have HHD := Lib.hid hhd
      have HLN := Lib.hid hln
      have hst : Rn1 w H s (R : Int) N hd 8 (.slice a5 (1 + s.size + 1) c5) (.int .i64 7) w5 := ⟨0, a5, c5, by omega, rfl, by rw [hln], by simpa using hI5⟩
      clear hhd hln hI5 hlen4 hbR
      go_wp2_with fail
      go_loopg [6, 7] 8 (Rn1 w H s (R : Int) N hd)
      case atStart => exact hst
      case round =>
        clear hst
        obtain ⟨t, a, c, hf, rfl, rfl, hI⟩ := hrel
        have HF := Lib.hid hf
        clear hf
        have hlt := hI.lt
        by_cases ht : t < 8
        · obtain ⟨t', ht'⟩ : ∃ t', t' = t + 1 := ⟨_, rfl⟩
          have HQ := Lib.hid (ht' ▸ be64_take8 N t ht : (be64 N).take t' = (be64 N).take t ++ [be64b N t])
          have HT2 := Lib.hid ht'
          clear ht'
          have HE := Lib.hid fun p => be64_div N t p
          have hlen : (hd ++ (be64 N).take t).length = hd.length + t := by rw [List.length_append, be64_take_len _ _ (by omega)]
          have HL2 := Lib.hid hlen
          have hd12 : hd.length ≤ 42 := by rw [HLN.out]; omega
          have c0 : wr.cell? ⟨H, 2, none⟩ = some (.int .i64 (N : Int)) := hI.tok.cell rfl
          clear hlen
          have h8 : t = 0 ∨ t = 1 ∨ t = 2 ∨ t = 3 ∨ t = 4 ∨ t = 5 ∨ t = 6 ∨ t = 7 := by omega
          rcases h8 with rfl | rfl | rfl | rfl | rfl | rfl | rfl | rfl
          all_goals
            have hown := hI.own
            rw [HL2.out] at hown
            go_wp2_with (at_builtin; refine wpList_append_row rfl (.tmp 35) (.tmp 43) 22 rfl bytesT3 rfl (hown.alloc _) rfl (RowAt.new' _ _ _ _ (by simp)) (by rfl) (by exact all_one _ rfl) (by unfold maxLen; omega) (by omega) (by simp; omega) ?_)
            intro a5 c5 w5 own5 hg5
            clear c0 hown
            go_wp2_with fail
            go_roundg (gk - 1)
            case rel =>
              refine ⟨t', a5, c5, by have := HF.out; have := HT2.out; omega, by rw [HT2.out]; rfl, by rw [HT2.out], ?_⟩
              rw [HQ.out, ← List.append_assoc]
              refine (hI.old ((Below.refl _ _).alloc (Nat.le_refl _) _)).app _ 1 rfl ?_ (by rw [HL2.out]; exact hg5)
              rw [HL2.out]
              first
                | (have E := HE.out _ rfl; simp only [List.map_cons, List.map_nil, bv]; rw [← E]; exact own5)
                | (have E := HE.out _ rfl; simp only [List.map_append, List.map_cons, List.map_nil, bv]; rw [← E]; simpa [bv] using own5)
                | (have E := HE.out 72057594037927936 rfl; have E2 : (N : Int) / 72057594037927936 = U8 (be64b N 0) := by { rw [← E]; omega }; simpa [bv, E2] using own5)
                | (have E := HE.out 281474976710656 rfl; have E2 : (N : Int) / 281474976710656 = U8 (be64b N 1) := by { rw [← E]; omega }; simpa [bv, E2] using own5)
                | (have E := HE.out 1 rfl; have E2 : (N : Int) % 256 = U8 (be64b N 7) := by { rw [← E]; omega }; simpa [bv, E2] using own5)
            case measure => have := HF.out; omega
        · obtain rfl : t = 8 := by have := HF.out; omega
          rw [List.take_of_length_le (by rw [be64_length]; omega)] at hI
          have hhead : hd ++ be64 N = tokHead T := by rw [HHD.out, HT.out, tokHead, HSZ.out, HSL.out]; simp
          have hlen : (tokHead T).length = hd.length + 8 := by rw [← hhead, List.length_append, be64_length]
          rw [hhead] at hI
          have hown := hI.own.row
          have HLT := Lib.hid hlen
          have hd12 : hd.length ≤ 42 := by rw [HLN.out]; omega
          have hkr := hk0.out.below (HH.out ▸ hI.below)
          clear hhead hlen
          go_wp2_with fail
          refine (rmac_any k (tokHead T) ka kn kc a (hd.length + 8) c _ hkr HK.out (by omega) hown HLT.out (by omega)).mono ?_
          unfold RmOut
          rintro e w6 ⟨rfl, hb6⟩
          have hI6 := hI.old hb6
          have hlt6 := hI6.lt
          clear hI hb6 hkr hown hlt
          go_upto_region 13 with (refine wpList_store_blk rfl 32 agg32 (.tmp 8) _ (cells := mcA k (tokHead T)) rfl rfl rfl (Blk.new _ _ _) (vA_size _ _) rfl (vA_one fun _ _ => rfl) ?_)
          obtain ⟨G, hG⟩ : ∃ G, G = w6.heap.size := ⟨_, rfl⟩
          have hG0 := Blk.new w6 (vA 32 fun _ => .int .u8 0) 32
          have hbb := below_setRow ((Below.refl w6.heap.size w6).alloc (Nat.le_refl _) (.cells (vA 32 fun _ => .int .u8 0) 32)) (Nat.le_of_eq hG.symm) (mcA k (tokHead T))
          rw [← hG] at hG0 ⊢
          refine wp_forget (fun W0 => TmI w H s (R : Int) (N : Int) (tokHead T) a c W0 ∧ Blk W0 G (dgA (hout k (tokHead T))) 32) ⟨hI6.old hbb, hG0.setRow _⟩ ?_
          clear hI6 hG0 hG hbb hlt6
          rintro w7 ⟨hI, hG⟩
          have hst : Rn2 w H s (R : Int) N G (tokHead T) (hout k (tokHead T)) 32 (.slice a (hd.length + 8) c) (.int .i64 0) w7 := ⟨0, a, c, by omega, rfl, by rw [HLT.out], by simpa using hI, hG⟩
          clear hI hG
          go_wp2_with fail
          go_loopg [6, 9] 32 (Rn2 w H s (R : Int) N G (tokHead T) (hout k (tokHead T)))
          case atStart => exact hst
          case round =>
            clear hst
            obtain ⟨t, a, c, hf, rfl, rfl, hI, hG⟩ := hrel
            have HF2 := Lib.hid hf
            clear hf
            have hlt := hI.lt
            have HDM : ∃ m, m = hout k (tokHead T) := ⟨_, rfl⟩
            obtain ⟨m, hm⟩ := HDM
            rw [← hm] at hI hG
            have HM2 := Lib.hid hm
            clear hm
            by_cases ht : t < 32
            · have tt : decide ((t : Int) < 32) = true := decide_eq_true (by omega)
              have htI : (t : Int) < 32 := by omega
              have HQ := Lib.hid (dgl_take32 m t ht)
              have hlen : (tokHead T ++ (dgl m).take t).length = hd.length + 8 + t := by rw [List.length_append, dgl_take_len _ _ (by omega), HLT.out]
              have HL2 := Lib.hid hlen
              have HLT2 := Lib.hid (show (tokHead T).length = hd.length + 8 from HLT.out)
              clear hlen
              rw [HLT.out]
              have c0 : wr.cell? ⟨G, t, none⟩ = some (.int .u8 (U8 (dgb m t))) := hG.atV ht rfl
              have hown := hI.own
              rw [HL2.out] at hown
              go_wp2_with (at_builtin; refine wpList_append_row rfl (.tmp 52) (.tmp 56) 22 rfl bytesT3 rfl (hown.alloc _) rfl (RowAt.new' _ _ _ _ (by simp)) (by rfl) (by exact all_one _ rfl) (by unfold maxLen; omega) (by omega) (by simp; omega) ?_)
              intro a5 c5 w5 own5 hg5
              have hG5 := (hG.alloc (.cells #[.int .u8 (U8 (dgb m t))] 5)).grown hg5 fun e => by
                obtain ⟨g', cur, e1, _, hb1, _⟩ := hown.blk (by omega)
                rw [e1] at e
                simp [Value.ownBlock] at e
                subst e
                exact Blk.ne hb1 hG (by decide) rfl
              clear c0 hown hG
              go_wp2_with fail
              go_roundg (gk - 1)
              case rel =>
                rw [← HM2.out]
                refine ⟨t + 1, a5, c5, by have := HF2.out; omega, by go_num, by rw [HLT.out]; rfl, ?_, hG5⟩
                rw [HQ.out, ← List.append_assoc]
                refine (hI.old ((Below.refl _ _).alloc (Nat.le_refl _) _)).app _ 1 rfl ?_ (by rw [HL2.out]; exact hg5)
                rw [HL2.out]
                simpa [bv] using own5
              case measure => have := HF2.out; omega
            · obtain rfl : t = 32 := by have := HF2.out; omega
              have tt : decide (((32 : Nat) : Int) < 32) = false := by simp
              rw [List.take_of_length_le (by rw [dgl_length]; omega)] at hI
              go_wp2_with fail
              go_ret2
              exact ⟨a, _, c, tokB k T, 0, rfl, tokMake_may k T (by rw [HK.out]; omega) HM.out.symm, by rw [tokB, List.length_append, dgl_length], by rw [HM2.out] at hI; exact hI.own.row, HH.out ▸ hI.below, by have := hI.own.le; rw [List.length_append, dgl_length] at this; exact this⟩
end Go.Proofs.Ytlhemmlmhgjodaa
