/- Bytes checked as a token's: walked. -/
import Derived.Test.YtlhemmlmhgjodaaTokCur
namespace Go.Proofs.Ytlhemmlmhgjodaa
open Go.RowKit

def ChkP (w : World) (k b : List UInt8) (now : Int) (e : Ending) (w' : World) : Prop :=
  e = .returned (.tuple #[tokV (tokCheck k b now).1, .int .i64 (tokCheck k b now).2]) ∧ Below w.heap.size w w'
def ze : ByteArray := ⟨#[]⟩
theorem aggTok : AggT Try.prog 25 3 := ⟨⟨_, Try.underlying25, rfl⟩, by kernel_rfl⟩
theorem zeroTok : Try.prog.built 25 [] = some (tokC ze 0 0) := by kernel_rfl
theorem tokCheck_long (k b : List UInt8) (now : Int) (h : 65536 < k.length) : tokCheck k b now = (tok0, 3) := by rw [tokCheck, if_pos h]
theorem tokCheck_bad (k b : List UInt8) (now : Int) (h : k.length ≤ 65536) (hb : tokMake k (tokRead b) ≠ (b, 0)) : tokCheck k b now = (tok0, 90) := by rw [tokCheck, if_neg (by omega), if_neg hb]
theorem tokCheck_late (k b : List UInt8) (now : Int) (h : k.length ≤ 65536) (hb : tokMake k (tokRead b) = (b, 0)) (hn : (tokRead b).til < now) : tokCheck k b now = (tok0, 91) := by rw [tokCheck, if_neg (by omega), if_pos hb, if_pos hn]
theorem tokCheck_good (k b : List UInt8) (now : Int) (h : k.length ≤ 65536) (hb : tokMake k (tokRead b) = (b, 0)) (hn : ¬ (tokRead b).til < now) : tokCheck k b now = (tokRead b, 0) := by rw [tokCheck, if_neg (by omega), if_pos hb, if_neg hn]
theorem tokMake_big (k b : List UInt8) (t : Tok) (h : 82 < b.length) : tokMake k t ≠ (b, 0) := fun e => by
  obtain ⟨_, h2, h3⟩ := tokMake_ok k t b e
  rw [h3, tokB_length] at h
  simp only [tokMay, decide_eq_true_eq] at h2
  omega
theorem tokMay_le (t : Tok) (h : tokMay t = true) : t.name.length ≤ 40 := by
  simp only [tokMay, decide_eq_true_eq] at h
  omega
theorem last_at {w : World} {g o n j : Nat} {l : List UInt8} (h : BytesAt w (some ⟨g, o, none⟩) l) (hl : l.length = n) (hj : n = j + 32) : ∀ i (hi : i < (vL 32 fun i => bv (l.getD (j + i) 0)).length), w.cell? ⟨g, o + j + i, none⟩ = some (vL 32 fun i => bv (l.getD (j + i) 0))[i] := by
  intro i hi
  rw [vL_length] at hi
  obtain ⟨b, o', e, hc⟩ := h.cellAt (j + i) (by omega)
  cases e
  rw [Nat.add_assoc, hc]
  simp [vL, bv]
theorem tok0V : tokV tok0 = .agg (tokC ze 0 0) := rfl
theorem numI1 (l : List UInt8) (h : l.length ≤ 1) : ∃ n : Nat, numI l = (n : Int) ∧ n ≤ 255 := by
  match l, h with
  | [], _ => exact ⟨0, rfl, by omega⟩
  | [y], _ => exact ⟨y.toNat, num1 y, by have : y.toNat < 256 := y.toBitVec.isLt; omega⟩
theorem tokRead_wf (b : List UInt8) : TokWf (tokRead b) := by
  obtain ⟨n, hn, hn255⟩ := numI1 (b.take 1) (List.length_take_le _ _)
  refine ⟨?_, ?_, ?_, ?_, ?_⟩
  · have : (tokRead b).name = (b.drop 1).take n := by rw [tokRead]; simp only [hn, Int.toNat_natCast]
    rw [this, List.length_take]; omega
  · show -128 ≤ IntKind.i8.wrap _
    simp [IntKind.wrap, IntKind.bits, IntKind.signed]; omega
  · show IntKind.i8.wrap _ ≤ 127
    simp [IntKind.wrap, IntKind.bits, IntKind.signed]; omega
  · have := BitVec.le_toInt (numW ((((b.drop 1).drop (numI (b.take 1)).toNat).drop 1).take 8))
    exact this
  · have := BitVec.toInt_lt (x := numW ((((b.drop 1).drop (numI (b.take 1)).toNat).drop 1).take 8))
    show BitVec.toInt _ ≤ _
    omega
theorem BytesAt.notTok {w : World} {C : Nat} {s : ByteArray} {r u : Int} (hC : Blk w C (tokC s r u) 25) {a : Option Addr} {b : List UInt8} (h : BytesAt w a b) (j : Nat) (v : Value) : BytesAt (w.setCell ⟨C, j, none⟩ v) a b := by
  intro i hi
  obtain ⟨g, o, e, hc⟩ := h i hi
  refine ⟨g, o, e, ?_⟩
  have hne : g ≠ C := by
    rintro rfl
    rw [hC.rule] at hc
    have hlt : o + i < 3 := (Array.getElem?_eq_some_iff.1 hc).1
    have h3 : o + i = 0 ∨ o + i = 1 ∨ o + i = 2 := by omega
    rcases h3 with e | e | e <;> rw [e] at hc <;> simp [tokC, bv] at hc
  have hh : (w.setCell ⟨C, j, none⟩ v).heap[g]? = w.heap[g]? := heap_setCell_other w ⟨C, j, none⟩ g v hne
  unfold World.cell? at hc ⊢
  simp only at hc ⊢
  rw [hh]; exact hc
theorem CurAt.setTok {w : World} {C g : Nat} {b : List UInt8} {a : Option Addr} {n c : Nat} (h : CurAt w C b a n c) {s : ByteArray} {r u : Int} (hT : Blk w g (tokC s r u) 25) (j : Nat) (v : Value) : CurAt (w.setCell ⟨g, j, none⟩ v) C b a n c :=
  ⟨h.cur.other _ _ (Blk.ne h.cur hT (by decide)), h.read.notTok hT j v, h.hl, h.h1⟩
set_option maxHeartbeats 4000000 in
set_option maxRecDepth 100000 in
theorem check_any (k b : List UInt8) (ka : Option Addr) (kn kc : Nat) (ba : Option Addr) (bn bc : Nat) (now : Int) (w : World) (hk : BytesAt w ka k) (hkl : k.length = kn) (hb : BytesAt w ba b) (hbl : b.length = bn) (hb1 : bn ≤ bc) :
    Calls Try.prog 12 #[.slice ka kn kc, .slice ba bn bc, .int .i64 now] w (ChkP w k b now) := by
  have HK := Lib.hid hkl
  have HB := Lib.hid hbl
  have hk0 := Lib.hid hk
  have hb0 := Lib.hid hb
  obtain ⟨H, hH⟩ : ∃ H, H = w.heap.size := ⟨_, rfl⟩
  have HH := Lib.hid hH
  have hR0 := Blk.new w (tokC ze 0 0) 25
  have hw0 := (Below.refl w.heap.size w).alloc (Nat.le_refl _) (.cells (tokC ze 0 0) 25)
  rw [← hH] at hR0 hw0
  clear hkl hbl hk hb hH
  by_cases hbig : 65536 < kn
  · have t1 : decide (65536 < kn) = true := decide_eq_true hbig
    have t2 : decide ((65536 : Int) < (kn : Int)) = true := decide_eq_true (by omega)
    have hv := tokCheck_long k b now (by rw [HK.out]; exact hbig)
    have HV := Lib.hid hv
    clear hv
    go_enter Try.func12, Try.ntmps12
    go_upto_region 1 with fail
    rw [← HH.out]
    refine wp_forget (fun W0 => Blk W0 H (tokC ze 0 0) 25 ∧ Below H w W0) ⟨hR0, hw0⟩ ?_
    clear hR0 hw0
    rintro w1 ⟨hR, hw⟩
    go_wp2_with (refine wpList_store_blk rfl 25 aggTok (.tmp 6) _ (cells := tokC ze 0 0) rfl rfl rfl hR rfl rfl rfl ?_)
    exact post_blk_tmp rfl aggTok rfl (hR.setRow _) rfl rfl rfl ⟨by rw [HV.out]; rfl, HH.out ▸ below_setRow hw (Nat.le_refl _) _⟩
  · have t1 : decide (65536 < kn) = false := decide_eq_false hbig
    have t2 : decide ((65536 : Int) < (kn : Int)) = false := decide_eq_false (by omega)
    by_cases hlong : 297 < bn
    · have t3 : decide (297 < bn) = true := decide_eq_true hlong
      have t4 : decide ((297 : Int) < (bn : Int)) = true := decide_eq_true (by omega)
      have hv := tokCheck_bad k b now (by rw [HK.out]; omega) (tokMake_big k b _ (by rw [HB.out]; omega))
      have HV := Lib.hid hv
      clear hv
      go_enter Try.func12, Try.ntmps12
      go_upto_region 1 with fail
      rw [← HH.out]
      refine wp_forget (fun W0 => Blk W0 H (tokC ze 0 0) 25 ∧ Below H w W0) ⟨hR0, hw0⟩ ?_
      clear hR0 hw0
      rintro w1 ⟨hR, hw⟩
      go_wp2_with (refine wpList_store_blk rfl 25 aggTok (.tmp 6) _ (cells := tokC ze 0 0) rfl rfl rfl hR rfl rfl rfl ?_)
      exact post_blk_tmp rfl aggTok rfl (hR.setRow _) rfl rfl rfl ⟨by rw [HV.out]; rfl, HH.out ▸ below_setRow hw (Nat.le_refl _) _⟩
    · have t3 : decide (297 < bn) = false := decide_eq_false hlong
      have t4 : decide ((297 : Int) < (bn : Int)) = false := decide_eq_false (by omega)
      obtain ⟨T, hT⟩ : ∃ T, T = tokRead b := ⟨_, rfl⟩
      obtain ⟨n, hn, hn255⟩ := numI1 (b.take 1) (List.length_take_le _ _)
      have hTn : T.name = (b.drop 1).take n := by rw [hT, tokRead]; simp only [hn, Int.toNat_natCast]
      have hTr : T.role = IntKind.i8.wrap (numI (((b.drop 1).drop n).take 1)) := by rw [hT, tokRead]; simp only [hn, Int.toNat_natCast]
      have hTt : T.til = numI ((((b.drop 1).drop n).drop 1).take 8) := by rw [hT, tokRead]; simp only [hn, Int.toNat_natCast]
      have HT := Lib.hid hT
      have HN := Lib.hid hn
      have HTn := Lib.hid hTn
      have HTr := Lib.hid hTr
      have HTt := Lib.hid hTt
      clear hT hn hTn hTr hTt
      go_enter Try.func12, Try.ntmps12
      go_upto_region 7 with fail
      rw [← HH.out]
      have hC0 := Blk.new (w.alloc (.cells (tokC ze 0 0) 25)) (curC ba bn bc) 43
      have hT0 := Blk.new ((w.alloc (.cells (tokC ze 0 0) 25)).alloc (.cells (curC ba bn bc) 43)) (tokC ze 0 0) 25
      simp only [World.size_alloc] at hC0 hT0
      rw [← HH.out] at hC0 hT0
      refine wp_forget (fun W0 => Blk W0 H (tokC ze 0 0) 25 ∧ CurAt W0 (H + 1) b ba bn bc ∧ Blk W0 (H + 1 + 1) (tokC ze 0 0) 25 ∧ Below H w W0) ⟨(hR0.alloc _).alloc _, ⟨hC0.alloc _, ((hb0.out.alloc _).alloc _).alloc _, HB.out, hb1⟩, hT0, (hw0.alloc (by rw [HH.out]; simp only [World.size_alloc]; omega) _).alloc (by rw [HH.out]; simp only [World.size_alloc]; omega) _⟩ ?_
      clear hR0 hw0 hC0 hT0
      rintro w1 ⟨hR, hC, hT, hw⟩
      go_wp2_with fail
      refine (number_any (H + 1) b ba bn bc 1 _ hC (by omega)).mono ?_
      rw [HN.out]
      rintro e w2 ⟨rfl, rfl⟩
      have hC2 := hC.take 1
      refine g_forget (fun W0 => Blk W0 H (tokC ze 0 0) 25 ∧ CurAt W0 (H + 1) (b.drop 1) (cutA ba bc (min 1 bn)) (bn - min 1 bn) (bc - min 1 bn) ∧ Blk W0 (H + 1 + 1) (tokC ze 0 0) 25 ∧ Below H w W0) ⟨hR.other _ _ (by show H ≠ H + 1; omega), hC2, hT.other _ _ (by show H + 1 + 1 ≠ H + 1; omega), hw.setCell (by show H ≤ H + 1; omega) _⟩ ?_
      clear hR hC hC2 hT hw
      obtain ⟨a1, ha1⟩ : ∃ x, x = cutA ba bc (min 1 bn) := ⟨_, rfl⟩
      obtain ⟨n1, hn1⟩ : ∃ x, x = bn - min 1 bn := ⟨_, rfl⟩
      obtain ⟨c1, hc1⟩ : ∃ x, x = bc - min 1 bn := ⟨_, rfl⟩
      rw [← ha1, ← hn1, ← hc1]
      clear ha1 hn1 hc1
      obtain ⟨b1, hb1'⟩ : ∃ x, x = b.drop 1 := ⟨_, rfl⟩
      rw [← hb1']
      rw [← hb1'] at HTn HTr HTt
      clear hb1'
      rintro w2 ⟨hR, hC, hT, hw⟩
      go_wp2_with fail
      refine (take_any (H + 1) a1 n1 c1 n _ hC.cur hC.h1 (by omega)).mono ?_
      rintro e w3 ⟨rfl, rfl⟩
      have hC2 := hC.take n
      have hrd := hC.taken n (.slice (cutA a1 c1 (min n n1)) (n1 - min n n1) (c1 - min n n1))
      have hrl : (b1.take n).length = min n n1 := by rw [List.length_take, hC.hl]
      refine g_forget (fun W0 => Blk W0 H (tokC ze 0 0) 25 ∧ CurAt W0 (H + 1) (b1.drop n) (cutA a1 c1 (min n n1)) (n1 - min n n1) (c1 - min n n1) ∧ Blk W0 (H + 1 + 1) (tokC ze 0 0) 25 ∧ Below H w W0 ∧ BytesAt W0 a1 (b1.take n)) ⟨hR.other _ _ (by show H ≠ H + 1; omega), hC2, hT.other _ _ (by show H + 1 + 1 ≠ H + 1; omega), hw.setCell (by show H ≤ H + 1; omega) _, hrd⟩ ?_
      clear hR hC hC2 hT hw hrd
      obtain ⟨a2, ha2⟩ : ∃ x, x = cutA a1 c1 (min n n1) := ⟨_, rfl⟩
      obtain ⟨n2, hn2⟩ : ∃ x, x = n1 - min n n1 := ⟨_, rfl⟩
      obtain ⟨c2, hc2⟩ : ∃ x, x = c1 - min n n1 := ⟨_, rfl⟩
      obtain ⟨m1, hm1⟩ : ∃ x, x = min n n1 := ⟨_, rfl⟩
      rw [← ha2, ← hn2, ← hc2, ← hm1]
      rw [← hm1] at hrl
      have HRL := Lib.hid hrl
      clear ha2 hn2 hc2 hm1 hrl
      rw [← HTn.out] at HRL ⊢
      obtain ⟨b2, hb2'⟩ : ∃ x, x = b1.drop n := ⟨_, rfl⟩
      rw [← hb2']
      rw [← hb2'] at HTr HTt
      clear hb2'
      rintro w3 ⟨hR, hC, hT, hw, hrd⟩
      have s1 := run_string_of (P := Try.prog) w3 (src := 22) (dst := 9) (e := 5) (c := c1) Try.underlying22 Try.underlying5 Try.underlying9 hrd HRL.out
      have f0 := hT.free
      have c0 : w3.cell? ⟨H + 1 + 1, 0, none⟩ = some (.string ze) := hT.cell rfl
      go_upto_region 8 with fail
      clear c0 f0 s1 hrd
      obtain ⟨q, hq, hq255⟩ := numI1 (b2.take 1) (List.length_take_le _ _)
      rw [hq] at HTr
      have HQ := Lib.hid hq
      clear hq
      refine wp_forget (fun W0 => Blk W0 H (tokC ze 0 0) 25 ∧ CurAt W0 (H + 1) b2 a2 n2 c2 ∧ Blk W0 (H + 1 + 1) (tokC (strOf T.name) 0 0) 25 ∧ Below H w W0) ⟨hR.other _ _ (by show H ≠ H + 1 + 1; omega), hC.setTok hT 0 _, hT.set 0 _, hw.setCell (by show H ≤ H + 1 + 1; omega) _⟩ ?_
      clear hR hC hT hw
      rintro w4 ⟨hR, hC, hT, hw⟩
      go_wp2_with fail
      refine (number_any (H + 1) b2 a2 n2 c2 1 _ hC (by omega)).mono ?_
      rw [HQ.out]
      rintro e w5 ⟨rfl, rfl⟩
      have hC2 := hC.take 1
      refine g_forget (fun W0 => Blk W0 H (tokC ze 0 0) 25 ∧ CurAt W0 (H + 1) (b2.drop 1) (cutA a2 c2 (min 1 n2)) (n2 - min 1 n2) (c2 - min 1 n2) ∧ Blk W0 (H + 1 + 1) (tokC (strOf T.name) 0 0) 25 ∧ Below H w W0) ⟨hR.other _ _ (by show H ≠ H + 1; omega), hC2, hT.other _ _ (by show H + 1 + 1 ≠ H + 1; omega), hw.setCell (by show H ≤ H + 1; omega) _⟩ ?_
      clear hR hC hC2 hT hw
      obtain ⟨a3, ha3⟩ : ∃ x, x = cutA a2 c2 (min 1 n2) := ⟨_, rfl⟩
      obtain ⟨n3, hn3⟩ : ∃ x, x = n2 - min 1 n2 := ⟨_, rfl⟩
      obtain ⟨c3, hc3⟩ : ∃ x, x = c2 - min 1 n2 := ⟨_, rfl⟩
      rw [← ha3, ← hn3, ← hc3]
      clear ha3 hn3 hc3
      obtain ⟨b3, hb3'⟩ : ∃ x, x = b2.drop 1 := ⟨_, rfl⟩
      rw [← hb3']
      rw [← hb3'] at HTt
      clear hb3'
      rintro w5 ⟨hR, hC, hT, hw⟩
      have f0 := hT.free
      have c0 : w5.cell? ⟨H + 1 + 1, 1, none⟩ = some (.int .i8 0) := hT.cell rfl
      go_upto_region 9 with fail
      rw [← HTr.out]
      clear c0 f0
      refine wp_forget (fun W0 => Blk W0 H (tokC ze 0 0) 25 ∧ CurAt W0 (H + 1) b3 a3 n3 c3 ∧ Blk W0 (H + 1 + 1) (tokC (strOf T.name) T.role 0) 25 ∧ Below H w W0) ⟨hR.other _ _ (by show H ≠ H + 1 + 1; omega), hC.setTok hT 1 _, hT.set 1 _, hw.setCell (by show H ≤ H + 1 + 1; omega) _⟩ ?_
      clear hR hC hT hw
      rintro w6 ⟨hR, hC, hT, hw⟩
      go_wp2_with fail
      refine (number_any (H + 1) b3 a3 n3 c3 8 _ hC (by omega)).mono ?_
      rw [← HTt.out]
      rintro e w7 ⟨rfl, rfl⟩
      refine g_forget (fun W0 => Blk W0 H (tokC ze 0 0) 25 ∧ Blk W0 (H + 1 + 1) (tokC (strOf T.name) T.role 0) 25 ∧ Below H w W0) ⟨hR.other _ _ (by show H ≠ H + 1; omega), hT.other _ _ (by show H + 1 + 1 ≠ H + 1; omega), hw.setCell (by show H ≤ H + 1; omega) _⟩ ?_
      clear hR hC hT hw
      rintro w7 ⟨hR, hT, hw⟩
      have f0 := hT.free
      have c0 : w7.cell? ⟨H + 1 + 1, 2, none⟩ = some (.int .i64 0) := hT.cell rfl
      go_upto_region 10 with fail
      clear c0 f0
      refine wp_forget (fun W0 => Blk W0 H (tokC ze 0 0) 25 ∧ Blk W0 (H + 1 + 1) (tokC (strOf T.name) T.role T.til) 25 ∧ Below H w W0) ⟨hR.other _ _ (by show H ≠ H + 1 + 1; omega), hT.set 2 _, hw.setCell (by show H ≤ H + 1 + 1; omega) _⟩ ?_
      clear hR hT hw
      rintro w8 ⟨hR, hT, hw⟩
      have hwf : TokWf T := HT.out ▸ tokRead_wf b
      have hmk := fun W hh => make_any k ka kn kc T W hh HK.out hwf
      have etv : tokV T = .agg (tokC (strOf T.name) T.role T.til) := rfl
      rw [etv] at hmk
      have HMK := Lib.hid hmk
      clear hmk etv
      have hkr := hk0.out.below (HH.out ▸ hw)
      go_wp2_with (refine wpList_load_blk rfl 25 aggTok _ rfl rfl hT rfl ?_)
      refine (HMK.out _ hkr).mono ?_
      clear hkr
      unfold MakP
      rintro e w9 ⟨ma, mn, mc, l, er, rfl, hml, hll, hmr, hb9, hmc⟩
      have hR9 := hR.old hb9
      have hT9 := hT.old hb9
      have hw9 := hw.trans (hb9.mono (by have := hR.lt; omega))
      have HML := Lib.hid hml
      have HLL := Lib.hid hll
      clear hR hT hw hb9 HMK hml hll
      by_cases hmay : tokMay T = true
      · have hmm := HML.out
        rw [tokMake_may k T (by rw [HK.out]; omega) hmay] at hmm
        obtain ⟨rfl, rfl⟩ := Prod.mk.inj hmm
        clear hmm
        have hln : mn = T.name.length + 42 := by rw [← HLL.out, tokB_length]
        have HLN := Lib.hid hln
        have h42 : 42 ≤ mn := by omega
        have hmb : mn ≤ 100 := by have := tokMay_le T hmay; omega
        clear hln
        by_cases hne : mn = bn
        · obtain rfl := hne
          obtain ⟨j, hj⟩ : ∃ j, mn = j + 32 := ⟨mn - 32, by omega⟩
          have HJ := Lib.hid hj
          have e1 : (mn : Int) - 32 = (j : Int) := by omega
          clear hj
          obtain ⟨L, hL⟩ : ∃ L, L = tokB k T := ⟨_, rfl⟩
          rw [← hL] at hmr
          have hll : L.length = mn := by rw [hL, HLL.out]
          have HLb := Lib.hid hL
          have hbr := hb0.out.below (HH.out ▸ hw9)
          obtain ⟨g, o, rfl, _⟩ := hmr.at (by rw [hll]; omega)
          obtain ⟨g2, o2, rfl, _⟩ := hbr.at (by rw [HB.out]; omega)
          clear hL
          have e3 : IntKind.i64.wrap (j : Int) = (j : Int) := IntWalk.i64_in _ (by omega)
          have e4 : (0 : Int) ≤ (j : Int) := by omega
          have e5 : (j : Int) ≤ (mn : Int) := by omega
          have e6 : mn - j = 32 := by have := HJ.out; omega
          have e7 : ¬ mc = j := by have := HJ.out; omega
          have e8 : ¬ bc = j := by have := HJ.out; omega
          have ar : ∀ p c W, (Instr.arrayAt 32 (.slice (some p) 32 c)).run Try.prog W = .ok (.pointer (some p)) W := fun p c W => by
            simp [Instr.arrayAt, run_underlying Try.underlying32]
          obtain ⟨D, hDD⟩ : ∃ D, D = decide (L = b) := ⟨_, rfl⟩
          have HDD := Lib.hid hDD
          clear hDD
          go_upto_region 13 with fail
          go_cut [53] (fun v wx => v = .bool (!D) ∧ w9.drew = wx)
          case first =>
            refine wp_region_old (0 :: 1 :: 2 :: 3 :: 4 :: 5 :: 6 :: 7 :: 8 :: 9 :: 10 :: 11 :: 12 :: 13 :: 14 :: 15 :: 16 :: 17 :: 18 :: 19 :: 20 :: 21 :: 22 :: []) (by kernel_rfl) (by kernel_rfl) (fun c a d v w h => by cases d <;> exact h) ?_
            repeat (first | (refine lex_skip rfl (by rfl) ?_; simp only [Act.put, List.setIfInBounds_toArray, List.set]) | (refine lex_quiet (v := ?_) rfl rfl (by rfl) ?_ ?_; rotate_left; (intro W hW; go_simp); (try with_reducible rfl); simp only [Act.put, List.setIfInBounds_toArray, List.set]))
            refine lex_quiet (v := .agg (vA 32 fun i => bv (L.getD (j + i) 0))) rfl rfl (by rfl) (fun W hW => exec_load_as 32 agg32 _ rfl rfl rfl (last_at (hmr.drew.below hW) hll (by have := HJ.out; omega)) (vL_length _ _)) ?_
            simp only [Act.put, List.setIfInBounds_toArray, List.set]
            repeat (first | (refine lex_skip rfl (by rfl) ?_; simp only [Act.put, List.setIfInBounds_toArray, List.set]) | (refine lex_quiet (v := ?_) rfl rfl (by rfl) ?_ ?_; rotate_left; (intro W hW; go_simp); (try with_reducible rfl); simp only [Act.put, List.setIfInBounds_toArray, List.set]))
            refine lex_quiet (v := .agg (vA 32 fun i => bv (b.getD (j + i) 0))) rfl rfl (by rfl) (fun W hW => exec_load_as 32 agg32 _ rfl rfl rfl (last_at (hbr.drew.below hW) HB.out (by have := HJ.out; omega)) (vL_length _ _)) ?_
            simp only [Act.put, List.setIfInBounds_toArray, List.set]
            obtain ⟨E, hE⟩ : ∃ E, E = (List.range 32).all fun i => L.getD (j + i) 0 == b.getD (j + i) 0 := ⟨_, rfl⟩
            refine lex_quiet (v := .bool (!E)) rfl rfl (by rfl) (fun W hW => exec_cmp .neq 32 _ _ rfl rfl rfl (by kernel_rfl) (by rw [run_neq_struct, run_equalIn_vA 9998 32 5 32 Try.underlying32 Try.underlying5 (sized_run u8Info), ← hE]; rfl)) ?_
            simp only [Act.put, List.setIfInBounds_toArray, List.set]
            have HE := Lib.hid hE
            clear hE
            have s1 : ∀ W, Old w9.drew W → (convert 22 9 (.slice (some ⟨g, o, none⟩) mn mc)).run Try.prog W = .ok (.string (strOf L)) W := fun W hW => run_string_of W Try.underlying22 Try.underlying5 Try.underlying9 (hmr.drew.below hW) hll
            have s2 : ∀ W, Old w9.drew W → (convert 22 9 (.slice (some ⟨g2, o2, none⟩) mn bc)).run Try.prog W = .ok (.string (strOf b)) W := fun W hW => run_string_of W Try.underlying22 Try.underlying5 Try.underlying9 (hbr.drew.below hW) HB.out
            have hD : ((strOf L).toList == (strOf b).toList) = decide (L = b) := by rw [strOf_toList, strOf_toList, Bool.eq_iff_iff]; simp
            have hD2 : ((strOf L).toList != (strOf b).toList) = !decide (L = b) := by rw [bne, hD]
            rw [← HDD.out] at hD hD2
            have S1 := Lib.hid s1
            have S2 := Lib.hid s2
            clear s1 s2
            cases E with
            | false =>
              repeat (first | (refine lex_skip rfl (by rfl) ?_; simp only [Act.put, List.setIfInBounds_toArray, List.set]) | (refine lex_quiet (v := ?_) rfl rfl (by rfl) ?_ ?_; rotate_left; (intro W hW; go_simp); (try with_reducible rfl); simp only [Act.put, List.setIfInBounds_toArray, List.set]))
              refine lex_nil ?_
              go_wp2_with fail
              go_meet
              refine ⟨?_, rfl⟩
              have hne : D = false := by
                rw [HDD.out]
                refine decide_eq_false fun e => ?_
                have := HE.out
                rw [e] at this
                simp at this
              rw [hne]; rfl
            | true =>
              repeat (first | (refine lex_skip rfl (by rfl) ?_; simp only [Act.put, List.setIfInBounds_toArray, List.set]) | (refine lex_quiet (v := ?_) rfl rfl (by rfl) ?_ ?_; rotate_left; (intro W hW; go_simp); (try with_reducible rfl); simp only [Act.put, List.setIfInBounds_toArray, List.set]))
              refine lex_quiet (v := .string (strOf L)) rfl rfl (by rfl) (fun W hW => by have := S1.out W hW; go_simp) ?_
              simp only [Act.put, List.setIfInBounds_toArray, List.set]
              repeat (first | (refine lex_skip rfl (by rfl) ?_; simp only [Act.put, List.setIfInBounds_toArray, List.set]) | (refine lex_quiet (v := ?_) rfl rfl (by rfl) ?_ ?_; rotate_left; (intro W hW; go_simp); (try with_reducible rfl); simp only [Act.put, List.setIfInBounds_toArray, List.set]))
              refine lex_quiet (v := .string (strOf b)) rfl rfl (by rfl) (fun W hW => by have := S2.out W hW; go_simp) ?_
              simp only [Act.put, List.setIfInBounds_toArray, List.set]
              repeat (first | (refine lex_skip rfl (by rfl) ?_; simp only [Act.put, List.setIfInBounds_toArray, List.set]) | (refine lex_quiet (v := ?_) rfl rfl (by rfl) ?_ ?_; rotate_left; (intro W hW; go_simp); (try with_reducible rfl); simp only [Act.put, List.setIfInBounds_toArray, List.set]))
              refine lex_nil ?_
              go_wp2_with fail
              go_meet
              exact ⟨rfl, rfl⟩
          case rest =>
            obtain ⟨rfl, rfl⟩ := hcut
            have hR := hR9.drew
            have hTk := hT9.drew
            have hw := hw9.drew
            clear hR9 hT9 hw9 hmr hbr ar e1 e3 e4 e5 e6 e7 e8
            cases D with
            | false =>
              have hne : L ≠ b := fun e => by
                have := HDD.out
                rw [decide_eq_true e] at this
                cases this
              have hv := tokCheck_bad k b now (by rw [HK.out]; omega) (fun e => hne (by rw [← HT.out] at e; rw [HLb.out, ← (tokMake_ok k T b e).2.2]))
              have HV := Lib.hid hv
              clear hv hne
              go_wp2_with (refine wpList_store_blk rfl 25 aggTok (.tmp 6) _ (cells := tokC ze 0 0) rfl rfl rfl hR rfl rfl rfl ?_)
              exact post_blk_tmp rfl aggTok rfl (hR.setRow _) rfl rfl rfl ⟨by rw [HV.out]; rfl, HH.out ▸ below_setRow hw (Nat.le_refl _) _⟩
            | true =>
              have heq : L = b := by
                have := HDD.out
                exact of_decide_eq_true this.symm
              have hmk : tokMake k (tokRead b) = (b, 0) := by rw [← HT.out, tokMake_may k T (by rw [HK.out]; omega) hmay, ← HLb.out, heq]
              have c0 : w9.drew.cell? ⟨H + 1 + 1, 2, none⟩ = some (.int .i64 T.til) := hTk.cell rfl
              by_cases hlate : T.til < now
              · have t5 : decide (T.til < now) = true := decide_eq_true hlate
                have hv := tokCheck_late k b now (by rw [HK.out]; omega) hmk (by rw [← HT.out]; exact hlate)
                have HV := Lib.hid hv
                clear hv hmk heq
                go_wp2_with (refine wpList_store_blk rfl 25 aggTok (.tmp 6) _ (cells := tokC ze 0 0) rfl rfl rfl hR rfl rfl rfl ?_)
                exact post_blk_tmp rfl aggTok rfl (hR.setRow _) rfl rfl rfl ⟨by rw [HV.out]; rfl, HH.out ▸ below_setRow hw (Nat.le_refl _) _⟩
              · have t5 : decide (T.til < now) = false := decide_eq_false hlate
                have hv := tokCheck_good k b now (by rw [HK.out]; omega) hmk (by rw [← HT.out]; exact hlate)
                rw [← HT.out] at hv
                have HV := Lib.hid hv
                clear hv hmk heq
                go_wp2_with (first | refine wpList_load_blk rfl 25 aggTok _ rfl rfl hTk rfl ?_ | refine wpList_store_blk rfl 25 aggTok (.tmp 6) _ (cells := tokC (strOf T.name) T.role T.til) rfl rfl rfl hR rfl rfl rfl ?_)
                exact post_blk_tmp rfl aggTok rfl (hR.setRow _) rfl rfl rfl ⟨by rw [HV.out]; rfl, HH.out ▸ below_setRow hw (Nat.le_refl _) _⟩
        · have x1 : ((mn : Int) == (bn : Int)) = false := by simp; omega
          have x2 : ((mn : Int) != (bn : Int)) = true := by simp; omega
          have x3 : (mn == bn) = false := by simpa using hne
          have x4 : (mn != bn) = true := by simpa using hne
          have hv := tokCheck_bad k b now (by rw [HK.out]; omega) (fun e => hne (by rw [← HT.out] at e; obtain ⟨_, _, h3⟩ := tokMake_ok k T b e; rw [← HB.out, h3, tokB_length]; exact HLN.out))
          have HV := Lib.hid hv
          clear hv hmay
          go_wp2_with (refine wpList_store_blk rfl 25 aggTok (.tmp 6) _ (cells := tokC ze 0 0) rfl rfl rfl hR9 rfl rfl rfl ?_)
          exact post_blk_tmp rfl aggTok rfl (hR9.setRow _) rfl rfl rfl ⟨by rw [HV.out]; rfl, HH.out ▸ below_setRow hw9 (Nat.le_refl _) _⟩
      · have hmm := HML.out
        rw [tokMake, if_neg (by rw [HK.out]; omega), if_neg hmay] at hmm
        obtain ⟨rfl, rfl⟩ := Prod.mk.inj hmm
        clear hmm
        have hv := tokCheck_bad k b now (by rw [HK.out]; omega) (fun e => hmay (by rw [← HT.out] at e; exact (tokMake_ok k T b e).2.1))
        have HV := Lib.hid hv
        clear hv hmay
        go_wp2_with (refine wpList_store_blk rfl 25 aggTok (.tmp 6) _ (cells := tokC ze 0 0) rfl rfl rfl hR9 rfl rfl rfl ?_)
        exact post_blk_tmp rfl aggTok rfl (hR9.setRow _) rfl rfl rfl ⟨by rw [HV.out]; rfl, HH.out ▸ below_setRow hw9 (Nat.le_refl _) _⟩
end Go.Proofs.Ytlhemmlmhgjodaa
