/- The walks through a keyed sum fed and asked. -/
import Derived.Test.YtiadhcipfgckoaaMacNew
namespace Go.Proofs.Ytiadhcipfgckoaa
open Go.RowKit

def MwPost (w : World) (B M : Nat) (k l : List UInt8) (hi ho : Nat) (row : Option Nat) (a2 : Option Addr) (n2 c2 : Nat) (e : Ending) (w' : World) : Prop :=
  ∃ a n c, e = .returned (.int .i64 0) ∧ MacAt w' B M k l hi ho a n c a2 n2 c2 ∧ HsFr w w' hi row ∧ (rowB a c = none ∨ rowB a c = row ∨ ∃ b, rowB a c = some b ∧ w.heap.size ≤ b)
theorem MacAt.old {w w' : World} {B M : Nat} {k l : List UInt8} {hi ho : Nat} {a : Option Addr} {n c : Nat} {a2 : Option Addr} {n2 c2 : Nat} (h : MacAt w B M k l hi ho a n c a2 n2 c2) (hb : Below w.heap.size w w') : MacAt w' B M k l hi ho a n c a2 n2 c2 :=
  ⟨h.mac.old hb, h.inn.old hb, h.out.old hb, h.ne, h.row, h.leM, h.leI, h.leO⟩
set_option maxHeartbeats 1000000 in
set_option maxRecDepth 100000 in
theorem mwrite_any (B M : Nat) (k l b : List UInt8) (hi ho : Nat) (a : Option Addr) (n c : Nat) (a2 : Option Addr) (n2 c2 : Nat) (ba : Option Addr) (len cap : Nat) (w : World) (hM : MacAt w B M k l hi ho a n c a2 n2 c2) (hb : BytesAt w ba b) (hlen : b.length = len) (hl : l.length + len < 140737488353000) :
    Calls Try.prog 33 #[.pointer (some ⟨M, 0, none⟩), .slice ba len cap] w (MwPost w B M k (l ++ b) hi ho (rowB a c) a2 n2 c2) := by
  have c0 : w.cell? ⟨M, 0, none⟩ = some (.pointer (some ⟨hi, 0, none⟩)) := hM.mac.cell rfl
  have HL := Lib.hid hlen
  clear hlen
  go_enter Try.func33, Try.ntmps33
  go_wp2_with fail
  clear c0
  refine (write_any B hi (hin k l) b a n c _ len cap w hM.inn hb HL.out (by rw [hin, List.length_append, padl_length]; omega) (by have := hM.inn.hash.lt; have := hM.leI; omega)).mono ?_
  rintro e w1 ⟨a1, n1, c1, rfl, hH1, hfr1, hr1⟩
  go_wp2_with fail
  go_ret
  have hrow : rowB a c ≠ some M := fun e => by
    obtain ⟨_, _, cur, hcur⟩ := hM.inn.row.lt e
    exact Blk.ne hcur hM.mac (by decide) rfl
  have hne : M ≠ hi := Blk.ne hM.mac hM.inn.hash (by decide)
  refine ⟨a1, n1, c1, rfl, ⟨hfr1.blk hM.mac hne hrow, by rw [hin, ← List.append_assoc]; exact hH1, hM.out.fr hfr1 (Ne.symm hM.ne) hM.inn.hash ?_, hM.ne, ?_, hM.leM, hM.leI, hM.leO⟩, hfr1, hr1⟩
  · rcases hM.row with h | h
    · exact .inr h
    · refine .inl fun b hbr => ⟨fun e => h (hbr.trans e.symm), fun e => ?_⟩
      obtain ⟨_, _, cur, hcur⟩ := hM.inn.row.lt hbr
      exact Blk.ne hcur hM.out.hash (by decide) e.symm
  · rcases hr1 with h | h | ⟨b', h, hge⟩
    · exact .inl h
    · rw [h]; exact hM.row
    · refine .inr fun e => ?_
      rw [h] at e
      have := (hM.out.row.lt e.symm).2.1
      omega
theorem mnil_write (a : Option Addr) (n c : Nat) (w : World) : Calls Try.prog 33 #[.pointer none, .slice a n c] w fun e w' => e = .returned (.int .i64 1) ∧ w = w' := by
  go_enter Try.func33, Try.ntmps33
  go_wp2_with fail
  go_ret
  exact ⟨rfl, rfl⟩
set_option maxHeartbeats 1000000 in
set_option maxRecDepth 100000 in
theorem msum_any (B M : Nat) (k l : List UInt8) (hi ho : Nat) (a : Option Addr) (n c : Nat) (a2 : Option Addr) (n2 c2 : Nat) (w : World) (hM : MacAt w B M k l hi ho a n c a2 n2 c2) (hl : l.length < 140737488352000) :
    Calls Try.prog 35 #[.pointer (some ⟨M, 0, none⟩)] w fun e w' => e = .returned (.agg (mcA k l)) ∧ Below w.heap.size w w' := by
  obtain ⟨H, hH⟩ : ∃ H, H = w.heap.size := ⟨_, rfl⟩
  have hR0 := Blk.new w (vA 32 fun _ => .int .u8 0) 38
  rw [← hH] at hR0 ⊢
  go_enter Try.func35, Try.ntmps35
  go_upto_region 1 with fail
  rw [← hH]
  refine wp_forget (fun W0 => Blk W0 H (vA 32 fun _ => .int .u8 0) 38 ∧ MacAt W0 B M k l hi ho a n c a2 n2 c2 ∧ Below H w W0) ⟨hR0, hM.old ((Below.refl _ _).alloc (Nat.le_refl _) _), by rw [hH]; (try unfold Kept); repeat (first | assumption | exact Below.refl _ _ | exact below_undrew (Below.refl _ _) | exact Below.mono (by assumption) (by first | (simp; done) | (simp; omega) | omega) | refine below_setRow ?_ (by first | (simp; done) | (simp; omega) | omega) _ | refine Below.setCell ?_ (by first | (simp; done) | (simp; omega) | omega) _ | refine Below.alloc ?_ (by first | (simp; done) | (simp; omega) | omega) _ | refine below_drewN ?_ _ | refine Below.drew ?_ | refine below_undrew ?_ | refine below_step ?_ (by assumption))⟩ ?_
  have HH := Lib.hid hH
  clear hR0 hM hH
  rintro w0 ⟨hR, hM, hb⟩
  have c1 : w0.cell? ⟨M, 1, none⟩ = some (.pointer (some ⟨ho, 0, none⟩)) := hM.mac.cell rfl
  have hRl := hR.lt
  go_wp2_with fail
  refine (copy_any B ho _ a2 n2 c2 _ hM.out).mono ?_
  rintro e w1 ⟨g, a3, c3, rfl, hg, hH1, hb1⟩
  have hM1 := hM.old hb1
  have hR1 := hR.old hb1
  have hb01 := hb.trans (hb1.mono (by omega))
  have c0 : w1.cell? ⟨M, 0, none⟩ = some (.pointer (some ⟨hi, 0, none⟩)) := hM1.mac.cell rfl
  have hs1 := hb1.size
  have hH1 : HashAt w1 (H + 1) g _ _ _ _ := ⟨hH1.hash, hH1.row.lower (by omega), hH1.lt⟩
  clear c1 hM hb1 hR hb
  go_wp2_with fail
  refine (hsum_any B hi (hin k l) a n c _ hM1.inn (by rw [hin, List.length_append, padl_length]; omega)).mono ?_
  rintro e w2 ⟨rfl, hb2⟩
  have hR2 := hR1.old hb2
  have hH2 := hH1.old hb2
  have hb02 := hb01.trans (hb2.mono (by omega))
  have hs2 := hb2.size
  have hgl := hH1.hash.lt
  clear c0 hM1 hR1 hH1 hb01 hb2
  go_upto_region 5 with (refine wpList_store_blk rfl 38 agg32 (.tmp 4) _ (cells := dgA (hin k l)) rfl rfl rfl (Blk.new _ _ _) (vA_size _ _) rfl (vA_one fun _ _ => rfl) ?_)
  obtain ⟨K, hK⟩ : ∃ K, K = w2.heap.size := ⟨_, rfl⟩
  have hK0 := Blk.new w2 (vA 32 fun _ => .int .u8 0) 38
  rw [← hK] at hK0 ⊢
  refine wp_forget (fun W0 => Blk W0 H (vA 32 fun _ => .int .u8 0) 38 ∧ HashAt W0 (H + 1) g (padl (bkey k) 92) a3 n2 c3 ∧ Blk W0 K (dgA (hin k l)) 38 ∧ Below H w W0) ⟨(hR2.alloc _).setRow_other _ _ (by omega), (hH2.alloc _).setRow hK0 (by decide) (by decide) _, hK0.setRow _, below_setRow (hb02.alloc (by omega) _) (by omega) _⟩ ?_
  have hgH : H < g := by omega
  clear hR2 hH2 hb02 hK0 hK hs1 hs2 hgl hRl hg
  rintro w3 ⟨hR, hH3, hK, hb⟩
  have q2 := all32b K
  go_wp2_with fail
  refine (write_any (H + 1) g (padl (bkey k) 92) (dgl (hin k l)) a3 n2 c3 _ 32 32 _ hH3 (dgl_at hK) (dgl_length _) (by rw [padl_length]; omega) (by have := hH3.hash.lt; omega)).mono ?_
  rintro e w4 ⟨a4, n4, c4, rfl, hH4, hfr4, hr4⟩
  have hrow : rowB a3 c3 ≠ some H := fun e => by have := (hH3.row.lt e).1; omega
  have hR4 := hfr4.blk hR (by omega) hrow
  have hb4 := hb.trans (hfr4.below (by omega) (fun b hb => by have := (hH3.row.lt hb).1; omega) (by have := hR.lt; omega))
  clear hR hH3 hK hb q2 hfr4 hr4 hrow
  go_wp2_with fail
  refine (hsum_any (H + 1) g (hout k l) a4 n4 c4 _ hH4 (by rw [hout, List.length_append, padl_length, dgl_length]; omega)).mono ?_
  rintro e w5 ⟨rfl, hb5⟩
  have hR5 := hR4.old hb5
  have hb05 := hb4.trans (hb5.mono (by have := hR4.lt; omega))
  go_wp2_with (refine wpList_store_blk rfl 38 agg32 (.tmp 2) _ (cells := dgA (hout k l)) rfl rfl rfl hR5 (vA_size _ _) (vA_size _ _) (vA_one fun _ _ => rfl) ?_)
  exact post_blk rfl agg32 rfl (hR5.setRow _) (vA_size _ _) rfl ⟨rfl, below_setRow hb05 (Nat.le_refl _) _⟩
theorem mnil_sum (w : World) : Calls Try.prog 35 #[.pointer none] w fun e w' => e = .returned (.agg (vA 32 fun _ => bv 0)) ∧ Below w.heap.size w w' := by
  have hR := Blk.new w (vA 32 fun _ => .int .u8 0) 38
  go_enter Try.func35, Try.ntmps35
  go_wp2_with (refine wpList_store_blk rfl 38 agg32 (.tmp 2) _ (cells := vA 32 fun _ => bv 0) rfl rfl rfl hR (vA_size _ _) (vA_size _ _) (vA_one fun _ _ => rfl) ?_)
  exact post_blk rfl agg32 rfl (hR.setRow _) (vA_size _ _) rfl ⟨rfl, below_setRow ((Below.refl _ _).alloc (Nat.le_refl _) _) (Nat.le_refl _) _⟩
set_option maxHeartbeats 1000000 in
set_option maxRecDepth 100000 in
theorem mac_any (k b : List UInt8) (ka : Option Addr) (kn kc : Nat) (ba : Option Addr) (bn bc : Nat) (w : World) (hk : BytesAt w ka k) (hkl : k.length = kn) (hkm : kn < 140737488352000) (hb : BytesAt w ba b) (hbl : b.length = bn) (hbm : bn < 140737488352000) :
    Calls Try.prog 39 #[.slice ka kn kc, .slice ba bn bc] w fun e w' => e = .returned (.agg (mcA k b)) ∧ Below w.heap.size w w' := by
  obtain ⟨H, hH⟩ : ∃ H, H = w.heap.size := ⟨_, rfl⟩
  have hR0 := Blk.new w (vA 32 fun _ => .int .u8 0) 38
  rw [← hH] at hR0 ⊢
  have HK := Lib.hid hkl
  have HB := Lib.hid hbl
  clear hkl hbl
  go_enter Try.func39, Try.ntmps39
  go_upto_region 1 with fail
  rw [← hH]
  refine wp_forget (fun W0 => Blk W0 H (vA 32 fun _ => .int .u8 0) 38 ∧ BytesAt W0 ka k ∧ BytesAt W0 ba b ∧ Below H w W0) ⟨hR0, hk.alloc _, hb.alloc _, by rw [hH]; (try unfold Kept); repeat (first | assumption | exact Below.refl _ _ | exact below_undrew (Below.refl _ _) | exact Below.mono (by assumption) (by first | (simp; done) | (simp; omega) | omega) | refine below_setRow ?_ (by first | (simp; done) | (simp; omega) | omega) _ | refine Below.setCell ?_ (by first | (simp; done) | (simp; omega) | omega) _ | refine Below.alloc ?_ (by first | (simp; done) | (simp; omega) | omega) _ | refine below_drewN ?_ _ | refine Below.drew ?_ | refine below_undrew ?_ | refine below_step ?_ (by assumption))⟩ ?_
  have HH := Lib.hid hH
  clear hR0 hk hb hH
  rintro w0 ⟨hR, hk, hbb, hb⟩
  have hRl := hR.lt
  go_wp2_with fail
  refine (mnew_any k ka kn kc _ hk HK.out (by omega)).mono ?_
  rintro e w1 ⟨M, hi, ho, a, n, c, a2, n2, c2, rfl, hM1, hb1⟩
  have hs1 := hb1.size
  have hR1 := hR.old hb1
  have hb01 := hb.trans (hb1.mono (by omega))
  have hbb1 := hbb.below hb1
  clear hk hbb hb hR
  go_wp2_with fail
  refine (mwrite_any w0.heap.size M k [] b hi ho a n c a2 n2 c2 ba bn bc _ hM1 hbb1 HB.out (by simp; omega)).mono ?_
  rintro e w2 ⟨a3, n3, c3, rfl, hM2, hfr2, hr2⟩
  have hrow : rowB a c ≠ some H := fun e => by have := (hM1.inn.row.lt e).1; omega
  have hhi := hM1.leI
  have hR2 := hfr2.blk hR1 (by omega) hrow
  have hb02 := hb01.trans (hfr2.below (by omega) (fun b hb => by have := (hM1.inn.row.lt hb).1; omega) (by omega))
  rw [List.nil_append] at hM2
  clear hR1 hb01 hbb1 hfr2 hr2 hrow hM1 hb1
  go_wp2_with fail
  refine (msum_any w0.heap.size M k b hi ho a3 n3 c3 a2 n2 c2 _ hM2 (by rw [HB.out]; exact hbm)).mono ?_
  rintro e w3 ⟨rfl, hb3⟩
  have hR3 := hR2.old hb3
  have hb03 := hb02.trans (hb3.mono (by have := hR2.lt; omega))
  go_wp2_with (refine wpList_store_blk rfl 38 agg32 (.tmp 4) _ (cells := mcA k b) rfl rfl rfl hR3 (vA_size _ _) (vA_size _ _) (vA_one fun _ _ => rfl) ?_)
  exact post_blk rfl agg32 rfl (hR3.setRow _) (vA_size _ _) rfl ⟨rfl, below_setRow hb03 (Nat.le_refl _) _⟩
end Go.Proofs.Ytiadhcipfgckoaa
