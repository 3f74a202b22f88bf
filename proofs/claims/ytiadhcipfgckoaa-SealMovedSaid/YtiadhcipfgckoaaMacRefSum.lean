/- The document's keyed sum, walked. -/
import Derived.Test.YtiadhcipfgckoaaMacRef
namespace Go.Proofs.Ytiadhcipfgckoaa
open Go.RowKit

structure RmJ (w : World) (H : Nat) (k li lo : List UInt8) (ia : Option Addr) (ic : Nat) (oa : Option Addr) (oc : Nat) (wr : World) : Prop where
  res : Blk wr H (vA 32 fun _ => .int .u8 0) 38
  blk : Blk wr (H + 1) (vA 64 fun j => bv (bkey k j)) 59
  inn : Mid wr H 5 ia li.length ic (li.map bv)
  out : Mid wr H 5 oa lo.length oc (lo.map bv)
  d : ∀ r, rowB ia ic = some r → rowB oa oc ≠ some r
  below : Below H w wr
section
variable {w : World} {H : Nat} {k li lo : List UInt8} {ia oa : Option Addr} {ic oc : Nat} {wr wq : World}
theorem RmJ.le (h : RmJ w H k li lo ia ic oa oc wr) : H < wr.heap.size := h.res.lt
theorem RmJ.old (h : RmJ w H k li lo ia ic oa oc wr) (hb : Below wr.heap.size wr wq) : RmJ w H k li lo ia ic oa oc wq :=
  ⟨h.res.old hb, h.blk.old hb, h.inn.old hb, h.out.old hb, h.d, h.below.trans (hb.mono (Nat.le_of_lt h.le))⟩
theorem RmJ.app1 (h : RmJ w H k li lo ia ic oa oc wr) {p : List UInt8} {m : Nat} (hp : p.length = m) {a' : Option Addr} {c' : Nat} (hm : Mid wq H 5 a' (li.length + m) c' (li.map bv ++ p.map bv)) (hgr : wr.grownBy wq (rowB ia ic))
    (hr : rowB a' c' = rowB ia ic ∨ ∃ b, rowB a' c' = some b ∧ wr.heap.size ≤ b) : RmJ w H k (li ++ p) lo a' c' oa oc wq := by
  have hne : ∀ {b : Nat} {cs : Array Value} {t : TypeId}, Blk wr b cs t → t ≠ 5 → rowB ia ic ≠ some b := fun hB ht e => by
    obtain ⟨_, _, cur, hcur⟩ := h.inn.lt e
    exact Blk.ne hcur hB (Ne.symm ht) rfl
  refine ⟨h.res.grown hgr (hne h.res (by decide)), h.blk.grown hgr (hne h.blk (by decide)), by rw [List.length_append, List.map_append, hp]; exact hm, h.out.keep fun r hr' => hgr.block r (h.out.lt hr').2.1 fun e => h.d r e.symm hr', fun r hr' e => ?_, h.below.grown hgr (Nat.le_of_lt h.le) fun b hb => (h.inn.lt hb).1⟩
  rcases hr with h1 | ⟨b, h1, h2⟩
  · rw [h1] at hr'; exact h.d r hr' e
  · rw [h1] at hr'; cases hr'
    have := (h.out.lt e).2.1
    omega
theorem RmJ.app2 (h : RmJ w H k li lo ia ic oa oc wr) {p : List UInt8} {m : Nat} (hp : p.length = m) {a' : Option Addr} {c' : Nat} (hm : Mid wq H 5 a' (lo.length + m) c' (lo.map bv ++ p.map bv)) (hgr : wr.grownBy wq (rowB oa oc))
    (hr : rowB a' c' = rowB oa oc ∨ ∃ b, rowB a' c' = some b ∧ wr.heap.size ≤ b) : RmJ w H k li (lo ++ p) ia ic a' c' wq := by
  have hne : ∀ {b : Nat} {cs : Array Value} {t : TypeId}, Blk wr b cs t → t ≠ 5 → rowB oa oc ≠ some b := fun hB ht e => by
    obtain ⟨_, _, cur, hcur⟩ := h.out.lt e
    exact Blk.ne hcur hB (Ne.symm ht) rfl
  refine ⟨h.res.grown hgr (hne h.res (by decide)), h.blk.grown hgr (hne h.blk (by decide)), h.inn.keep fun r hr' => hgr.block r (h.inn.lt hr').2.1 fun e => h.d r hr' e.symm, by rw [List.length_append, List.map_append, hp]; exact hm, fun r hr' e => ?_, h.below.grown hgr (Nat.le_of_lt h.le) fun b hb => (h.out.lt hb).1⟩
  rcases hr with h1 | ⟨b, h1, h2⟩
  · rw [h1] at e; exact h.d r hr' e
  · rw [h1] at e; cases e
    have := (h.inn.lt hr').2.1
    omega
end
theorem padl_snoc (f : Nat → UInt8) (x : UInt8) (t : Nat) (h : t < 64) : (padl f x).take (t + 1) = (padl f x).take t ++ [f t ^^^ x] := by
  rw [List.take_succ_eq_append_getElem (by rw [padl_length]; exact h)]
  simp [padl]
theorem padl_take_len (f : Nat → UInt8) (x : UInt8) (t : Nat) (h : t ≤ 64) : ((padl f x).take t).length = t := by rw [List.length_take, padl_length]; omega
theorem BytesAt.cellAt {w : World} {a : Option Addr} {l : List UInt8} (h : BytesAt w a l) (i : Nat) (hi : i < l.length) : ∃ b o, a = some ⟨b, o, none⟩ ∧ w.cell? ⟨b, o + i, none⟩ = some (.int .u8 (U8 (l.getD i 0))) := by
  obtain ⟨b, o, e, hc⟩ := h.at (by omega)
  exact ⟨b, o, e, by rw [hc i hi]; simp [hi]⟩
def Rm1 (w : World) (H G : Nat) (k : List UInt8) (f : Nat) (i : Value) (wr : World) : Prop :=
  ∃ t : Nat, f + t = 32 ∧ i = .int .i64 (t : Int) ∧ Blk wr H (vA 32 fun _ => .int .u8 0) 38 ∧ Blk wr (H + 1) (vA 64 fun j => if j < t then bv (dgb k j) else .int .u8 0) 59 ∧ Blk wr G (dgA k) 38 ∧ Below H w wr
def Rm2 (w : World) (H : Nat) (k : List UInt8) (kn : Nat) (f : Nat) (i : Value) (wr : World) : Prop :=
  ∃ t : Nat, f + t = kn ∧ i = .int .i64 (t : Int) ∧ Blk wr H (vA 32 fun _ => .int .u8 0) 38 ∧ Blk wr (H + 1) (vA 64 fun j => if j < t then bv (k.getD j 0) else .int .u8 0) 59 ∧ Below H w wr
def Rm3 (w : World) (H : Nat) (k : List UInt8) (f : Nat) (x y i : Value) (wr : World) : Prop :=
  ∃ (t : Nat) (ia : Option Addr) (ic : Nat) (oa : Option Addr) (oc : Nat), f + t = 64 ∧ i = .int .i64 (t : Int) ∧ x = .slice ia t ic ∧ y = .slice oa t oc ∧ RmJ w H k ((padl (bkey k) 54).take t) ((padl (bkey k) 92).take t) ia ic oa oc wr
def RmOut (w : World) (k b : List UInt8) (e : Ending) (w' : World) : Prop := e = .returned (.agg (mcA k b)) ∧ Below w.heap.size w w'
attribute [local go_sem] bits_xor_u8 ofInt_U8
set_option maxHeartbeats 4000000 in
set_option maxRecDepth 100000 in
theorem rmac_any (k b : List UInt8) (ka : Option Addr) (kn kc : Nat) (ba : Option Addr) (bn bc : Nat) (w : World) (hk : BytesAt w ka k) (hkl : k.length = kn) (hkm : kn < 140737488352000) (hb : BytesAt w ba b) (hbl : b.length = bn) (hbm : bn < 140737488352000) :
    Calls Try.prog 20 #[.slice ka kn kc, .slice ba bn bc] w (RmOut w k b) := by
  have HK := Lib.hid hkl
  have HB := Lib.hid hbl
  obtain ⟨H, hH⟩ : ∃ H, H = w.heap.size := ⟨_, rfl⟩
  have HH := Lib.hid hH
  have hb0 := Lib.hid hb
  have hk0 := Lib.hid hk
  clear hkl hbl hb
  have hR0 := (Blk.new w (vA 32 fun _ => .int .u8 0) 38).alloc (.cells (vA 64 fun _ => .int .u8 0) 59)
  have hO0 := Blk.new (w.alloc (.cells (vA 32 fun _ => .int .u8 0) 38)) (vA 64 fun _ => .int .u8 0) 59
  simp only [World.size_alloc] at hO0
  rw [← hH] at hR0 hO0
  clear hH
  have hz1 := zero_run zero64b
  go_enter Try.func20, Try.ntmps20
  go_upto_region 2 with fail
  clear hz1
  rw [← HH.out]
  refine wp_forget (fun W0 => Blk W0 H (vA 32 fun _ => .int .u8 0) 38 ∧ Blk W0 (H + 1) (vA 64 fun _ => .int .u8 0) 59 ∧ BytesAt W0 ka k ∧ Below H w W0) ⟨hR0, hO0, (hk.alloc _).alloc _, ((HH.out ▸ Below.refl _ _ : Below H w w).alloc (by rw [HH.out]; omega) _).alloc (by rw [HH.out]; simp) _⟩ ?_
  clear hR0 hO0 hk
  rintro w1 ⟨hR, hO, hk, hw⟩
  have hsz : H + 1 < w1.heap.size := hO.lt
  go_upto_if 15 with fail
  go_cut [5] (fun v5 wx => v5 = .pointer (some ⟨H + 1, 0, none⟩) ∧ RmJ w H k [] [] none 0 none 0 wx)
  case first =>
    by_cases hbig : 64 < kn
    · have tI : decide ((64 : Int) < (kn : Int)) = true := by simp; omega
      have tt : decide (64 < kn) = true := by simpa using hbig
      go_wp2_with fail
      refine (rsum_any k ka kc kn _ hk HK.out (by omega)).mono ?_
      rintro e w2 ⟨rfl, hb2⟩
      have hR2 := hR.old hb2
      have hO2 := hO.old hb2
      have hw2 := hw.trans (hb2.mono (by omega))
      have hs2 := hb2.size
      clear hR hO hk hw hb2
      go_upto_region 4 with (refine wpList_store_blk rfl 38 agg32 (.tmp 6) _ (cells := dgA k) rfl rfl rfl (Blk.new _ _ _) (vA_size _ _) rfl (vA_one fun _ _ => rfl) ?_)
      obtain ⟨G, hG⟩ : ∃ G, G = w2.heap.size := ⟨_, rfl⟩
      have hG0 := Blk.new w2 (vA 32 fun _ => .int .u8 0) 38
      have hHG : H + 1 < G := by omega
      rw [← hG] at hG0 ⊢
      refine wp_forget (fun W0 => Rm1 w H G k 32 (.int .i64 0) W0) ⟨0, by omega, rfl, (hR2.alloc _).setRow_other _ _ (by omega), ((hO2.alloc _).setRow_other _ _ (by omega)).ofV fun j _ => by rw [if_neg (by omega)], hG0.setRow _, below_setRow (hw2.alloc (by omega) _) (by omega) _⟩ ?_
      clear hR2 hO2 hw2 hs2 hG0 hG tI tt
      intro w3 hst
      go_wp2_with fail
      go_loopg [7] 32 (Rm1 w H G k)
      case atStart => exact hst
      case round =>
        clear hst
        obtain ⟨t, hf, rfl, hR, hO, hG, hw⟩ := hrel
        have HF := Lib.hid hf
        clear hf
        by_cases ht : t < 32
        · have tt : decide ((t : Int) < 32) = true := by simp; omega
          have htI : (t : Int) < 32 := by omega
          have htJ : (t : Int) < 64 := by omega
          have c0 : wr.cell? ⟨G, t, none⟩ = some (.int .u8 (U8 (dgb k t))) := hG.atV ht rfl
          have c1 := hO.atV (show t < 64 by omega) rfl
          have f1 := hO.free
          go_wp2_with fail
          clear c0 c1 f1
          go_roundg (gk - 1)
          case rel =>
            have hf := HF.out
            refine ⟨t + 1, by omega, by go_num, hR.other _ _ (by show H ≠ H + 1; omega), (hO.setV (show t < 64 by omega) _).ofV fun j _ => ?_, hG.other _ _ (by show G ≠ H + 1; omega), hw.setCell (by show H ≤ H + 1; omega) _⟩
            by_cases e : j = t
            · subst e; rw [if_pos rfl, if_pos (by omega)]; rfl
            · rw [if_neg e]
              by_cases e2 : j < t
              · rw [if_pos e2, if_pos (by omega)]
              · rw [if_neg e2, if_neg (by omega)]
          case measure => have hf := HF.out; omega
        · obtain rfl : t = 32 := by have := HF.out; omega
          have tt : decide (((32 : Nat) : Int) < 32) = false := by simp
          go_wp2_with fail
          go_meet
          refine ⟨rfl, hR, hO.ofV fun j hj => ?_, Mid.nil' _ _ _, Mid.nil' _ _ _, fun r hr => by simp [rowB] at hr, hw⟩
          have e : bkey k j = if j < 32 then dgb k j else 0 := by rw [bkey, if_pos (show 64 < k.length by rw [HK.out]; exact hbig)]
          rw [e]
          by_cases e2 : j < 32
          · rw [if_pos e2, if_pos e2]
          · rw [if_neg e2, if_neg e2]; rfl
    · have tI : decide ((64 : Int) < (kn : Int)) = false := by simp; omega
      have tt : decide (64 < kn) = false := by simpa using hbig
      have hst : Rm2 w H k kn kn (.int .i64 0) w1 := ⟨0, by omega, rfl, hR, hO.ofV fun j _ => by rw [if_neg (by omega)], hw⟩
      clear hR hO hw hk
      go_wp2_with fail
      go_loopg [8] kn (Rm2 w H k kn)
      case atStart => exact hst
      case round =>
        clear hst
        obtain ⟨t, hf, rfl, hR, hO, hw⟩ := hrel
        have HF := Lib.hid hf
        clear hf
        have hkr : BytesAt wr ka k := hk0.out.below (HH.out ▸ hw)
        by_cases ht : t < kn
        · have tt : decide ((t : Int) < (kn : Int)) = true := by simp; omega
          have tN : decide (t < kn) = true := by simpa using ht
          have htJ : (t : Int) < 64 := by omega
          obtain ⟨b1, o1, rfl, c0⟩ := BytesAt.cellAt hkr t (by rw [HK.out]; exact ht)
          have c1 := hO.atV (show t < 64 by omega) rfl
          have f1 := hO.free
          go_wp2_with fail
          clear c0 c1 f1
          go_roundg (gk - 1)
          case rel =>
            have hf := HF.out
            refine ⟨t + 1, by omega, by go_num, hR.other _ _ (by show H ≠ H + 1; omega), (hO.setV (show t < 64 by omega) _).ofV fun j _ => ?_, hw.setCell (by show H ≤ H + 1; omega) _⟩
            by_cases e : j = t
            · subst e; rw [if_pos rfl, if_pos (by omega)]; rfl
            · rw [if_neg e]
              by_cases e2 : j < t
              · rw [if_pos e2, if_pos (by omega)]
              · rw [if_neg e2, if_neg (by omega)]
          case measure => have hf := HF.out; omega
        · obtain rfl : t = kn := by have := HF.out; omega
          have tt : decide ((t : Int) < (t : Int)) = false := by simp
          have tN : decide (t < t) = false := by simp
          go_wp2_with fail
          go_meet
          refine ⟨rfl, hR, hO.ofV fun j hj => ?_, Mid.nil' _ _ _, Mid.nil' _ _ _, fun r hr => by simp [rowB] at hr, hw⟩
          rw [bkey, if_neg (show ¬ 64 < k.length by rw [HK.out]; exact hbig)]
          by_cases e2 : j < t
          · rw [if_pos e2]
          · rw [if_neg e2, List.getD_eq_getElem?_getD, List.getElem?_eq_none (by rw [HK.out]; omega)]; rfl
  case rest =>
    obtain ⟨rfl, hJ⟩ := hcut
    clear hR hO hk hw hsz
    go_wp2_with fail
    have hst : Rm3 w H k 64 (.slice none 0 0) (.slice none 0 0) (.int .i64 0) wc := ⟨0, none, 0, none, 0, by omega, rfl, rfl, rfl, by simpa using hJ⟩
    clear hJ
    go_loopg [9, 10, 11] 64 (Rm3 w H k)
    case atStart => exact hst
    case round =>
      clear hst
      obtain ⟨t, ia, ic, oa, oc, hf, rfl, rfl, rfl, hJ⟩ := hrel
      have HF := Lib.hid hf
      clear hf
      have hle := hJ.le
      by_cases ht : t < 64
      · have tt : decide ((t : Int) < 64) = true := by simp; omega
        have htI : (t : Int) < 64 := by omega
        have HP1 := Lib.hid (padl_snoc (bkey k) 54 t ht)
        have HP2 := Lib.hid (padl_snoc (bkey k) 92 t ht)
        have c0 : wr.cell? ⟨H + 1, t, none⟩ = some (.int .u8 (U8 (bkey k t))) := hJ.blk.atV ht rfl
        have hJa := hJ.old ((Below.refl wr.heap.size wr).alloc (Nat.le_refl _) (.cells #[Value.int .u8 (U8 (bkey k t ^^^ 54))] 5))
        have hI := hJa.inn
        rw [padl_take_len _ _ _ (by omega)] at hI
        go_wp2_with (at_builtin; refine wpList_append_mid rfl (.tmp 43) (.tmp 48) 22 rfl bytesT3 rfl hI rfl (RowAt.new' _ _ _ _ (by simp)) (by rfl) (by exact all_one _ rfl) (by unfold maxLen; omega) (by omega) (by simp; omega) ?_)
        intro a5 c5 w5 hm5 hg5 hr5
        have hJ5 := hJa.app1 (p := [bkey k t ^^^ 54]) (m := 1) (wq := w5) (a' := a5) (c' := c5) rfl (by rw [padl_take_len _ _ _ (by omega), List.map_take]; exact hm5) hg5 (by simpa using hr5)
        clear hm5 hg5 hr5 hJa hJ hI c0 hle
        have hle := hJ5.le
        have c0 : w5.cell? ⟨H + 1, t, none⟩ = some (.int .u8 (U8 (bkey k t))) := hJ5.blk.atV ht rfl
        have hJa := hJ5.old ((Below.refl w5.heap.size w5).alloc (Nat.le_refl _) (.cells #[Value.int .u8 (U8 (bkey k t ^^^ 92))] 5))
        have hI := hJa.out
        rw [padl_take_len _ _ _ (by omega)] at hI
        go_wp2_with (at_builtin; refine wpList_append_mid rfl (.tmp 50) (.tmp 55) 22 rfl bytesT3 rfl hI rfl (RowAt.new' _ _ _ _ (by simp)) (by rfl) (by exact all_one _ rfl) (by unfold maxLen; omega) (by omega) (by simp; omega) ?_)
        intro a6 c6 w6 hm6 hg6 hr6
        have hJ6 := hJa.app2 (p := [bkey k t ^^^ 92]) (m := 1) (wq := w6) (a' := a6) (c' := c6) rfl (by rw [padl_take_len _ _ _ (by omega), List.map_take]; exact hm6) hg6 (by simpa using hr6)
        clear hm6 hg6 hr6 hJa hJ5 hI c0 hle
        go_wp2_with fail
        go_roundg (gk - 1)
        case rel =>
          have hf := HF.out
          exact ⟨t + 1, a5, c5, a6, c6, by omega, by go_num, rfl, rfl, by rw [HP1.out, HP2.out]; exact hJ6⟩
        case measure => have hf := HF.out; omega
      · obtain rfl : t = 64 := by have := HF.out; omega
        have tt : decide (((64 : Nat) : Int) < 64) = false := by simp
        have hI := hJ.inn
        rw [padl_take_len _ _ _ (by omega)] at hI
        have hbr := hb0.out.below (HH.out ▸ hJ.below)
        go_wp2_with (at_builtin; refine wpList_append_mid rfl (.tmp 57) (.tmp 58) 22 rfl bytesT3 rfl hI rfl hbr (by rw [List.length_map, HB.out]) (bv_one _) (by unfold maxLen; omega) (by omega) (by omega) ?_)
        intro a5 c5 w5 hm5 hg5 hr5
        have hJ5 := hJ.app1 (p := b) HB.out (by rw [padl_take_len _ _ _ (by omega)]; exact hm5) hg5 hr5
        rw [List.take_of_length_le (by rw [padl_length]; omega), List.take_of_length_le (by rw [padl_length]; omega)] at hJ5
        change RmJ w H k (hin k b) _ a5 c5 oa oc w5 at hJ5
        have hlen : (hin k b).length = 64 + bn := by rw [hin, List.length_append, padl_length, HB.out]
        have HLEN := Lib.hid hlen
        clear hm5 hg5 hr5 hJ hI hbr hlen
        have hr5 := hJ5.inn.read
        go_wp2_with fail
        refine (rsum_any (hin k b) a5 c5 (64 + bn) _ hr5 HLEN.out (by omega)).mono ?_
        rintro e w6 ⟨rfl, hb6⟩
        have hJ6 := hJ5.old hb6
        clear hJ5 hb6 hr5
        have hle := hJ6.le
        go_upto_region 20 with (refine wpList_store_blk rfl 38 agg32 (.tmp 12) _ (cells := dgA (hin k b)) rfl rfl rfl (Blk.new _ _ _) (vA_size _ _) rfl (vA_one fun _ _ => rfl) ?_)
        obtain ⟨G, hG⟩ : ∃ G, G = w6.heap.size := ⟨_, rfl⟩
        have hG0 := Blk.new w6 (vA 32 fun _ => .int .u8 0) 38
        have hbb := below_setRow ((Below.refl w6.heap.size w6).alloc (Nat.le_refl _) (.cells (vA 32 fun _ => .int .u8 0) 38)) (Nat.le_of_eq hG.symm) (dgA (hin k b))
        rw [← hG] at hG0 ⊢
        refine wp_forget (fun W0 => RmJ w H k (hin k b) (padl (bkey k) 92) a5 c5 oa oc W0 ∧ Blk W0 G (dgA (hin k b)) 38) ⟨hJ6.old hbb, hG0.setRow _⟩ ?_
        clear hJ6 hG0 hG hbb hle
        rintro w7 ⟨hJ, hG⟩
        have q2 := all32b G
        have hI := hJ.out
        rw [padl_length] at hI
        have hle := hJ.le
        go_wp2_with (at_builtin; refine wpList_append_mid rfl (.tmp 62) (.tmp 63) 22 rfl bytesT3 rfl hI rfl (dgl_at hG) (by rw [List.length_map, dgl_length]) (bv_one _) (by unfold maxLen; omega) (by omega) (by omega) ?_)
        intro a8 c8 w8 hm8 hg8 hr8
        have hJ8 := hJ.app2 (p := dgl (hin k b)) (dgl_length _) (by rw [padl_length]; exact hm8) hg8 hr8
        change RmJ w H k (hin k b) (hout k b) a5 c5 a8 c8 w8 at hJ8
        have hlen : (hout k b).length = 64 + 32 := by rw [hout, List.length_append, padl_length, dgl_length]
        have HLEN2 := Lib.hid hlen
        clear hm8 hg8 hr8 hJ hG hI hlen hle q2
        have hr8 := hJ8.out.read
        go_wp2_with fail
        refine (rsum_any (hout k b) a8 c8 (64 + 32) _ hr8 HLEN2.out (by omega)).mono ?_
        rintro e w9 ⟨rfl, hb9⟩
        have hJ9 := hJ8.old hb9
        clear hJ8 hb9 hr8
        go_wp2_with (refine wpList_store_blk rfl 38 agg32 (.tmp 4) _ (cells := dgA (hout k b)) rfl rfl rfl hJ9.res (vA_size _ _) (vA_size _ _) (vA_one fun _ _ => rfl) ?_)
        exact post_blk rfl agg32 rfl (hJ9.res.setRow _) (vA_size _ _) rfl ⟨rfl, HH.out ▸ below_setRow hJ9.below (Nat.le_refl _) _⟩
end Go.Proofs.Ytiadhcipfgckoaa
