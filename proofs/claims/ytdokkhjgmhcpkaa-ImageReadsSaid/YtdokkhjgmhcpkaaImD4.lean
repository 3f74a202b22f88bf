/- The document's reader: the end. -/
import Derived.Test.YtdokkhjgmhcpkaaImD3
namespace Go.Proofs.Ytdokkhjgmhcpkaa
open Go.RowKit
set_option linter.unusedVariables false
set_option linter.unusedSimpArgs false
set_option maxRecDepth 20000

/-- Where the reader's bad stands when nothing may stand behind. -/
def endB (q : DC) : Int := if q.bad < 0 ∧ q.at_ < q.bs.length then (q.at_ : Int) else q.bad
set_option maxHeartbeats 4000000 in
theorem end_d (w : World) (B : Nat) (q : DC) (hq : DAt w B q) (hB : B ≤ w.heap.size) :
    Calls Try.prog 31 #[.pointer (some ⟨q.c, 0, none⟩)] w fun e w' => e = .returned (.bool (decide (endB q < 0))) ∧ DStep B w q w' q.at_ (endB q) := by
  have hc := hq.blk.rule
  unfold dcells at hc
  have hlo := hq.lo
  have hle := hq.le
  have hmx := hq.max
  by_cases hb : q.bad < 0
  · have d0 : decide (q.bad < 0) = true := by simpa using hb
    by_cases hl : q.at_ < q.bs.length
    · have d1 : decide ((q.at_ : Int) < (q.bs.length : Int)) = true := by simp; omega
      have d1' : decide (q.at_ < q.bs.length) = true := by simp; omega
      have he : endB q = (q.at_ : Int) := by unfold endB; rw [if_pos ⟨hb, hl⟩]
      rw [he]
      have hz : decide ((q.at_ : Int) < 0) = false := by simp
      rw [hz]
      go_enter Try.func31, Try.ntmps31
      go_wp2_with fail
      go_quiet (fail)
      go_upto_region 2 with (fail)
      refine wp_forget (fun W => DStep B w q W q.at_ q.bad) ⟨hq.old (by (try unfold Kept); repeat (first | assumption | exact Below.refl _ _ | exact below_undrew (Below.refl _ _) | exact Below.mono (by assumption) (by first | (simp; done) | (simp; omega) | omega) | refine below_setRow ?_ (by first | (simp; done) | (simp; omega) | omega) _ | refine Below.setCell ?_ (by first | (simp; done) | (simp; omega) | omega) _ | refine Below.alloc ?_ (by first | (simp; done) | (simp; omega) | omega) _ | refine below_drewN ?_ _ | refine Below.drew ?_ | refine below_undrew ?_ | refine below_step ?_ (by assumption))) hB, Turn.of_below (by (try unfold Kept); repeat (first | assumption | exact Below.refl _ _ | exact below_undrew (Below.refl _ _) | exact Below.mono (by assumption) (by first | (simp; done) | (simp; omega) | omega) | refine below_setRow ?_ (by first | (simp; done) | (simp; omega) | omega) _ | refine Below.setCell ?_ (by first | (simp; done) | (simp; omega) | omega) _ | refine Below.alloc ?_ (by first | (simp; done) | (simp; omega) | omega) _ | refine below_drewN ?_ _ | refine Below.drew ?_ | refine below_undrew ?_ | refine below_step ?_ (by assumption)))⟩ ?_
      intro w1 hs1
      clear hc
      have hq1 : DAt w1 B q := hs1.at'
      have hc := hq1.blk.rule
      unfold dcells at hc
      have cw := wrong_d w1 B q q.at_ hq1 (by omega)
      rw [if_pos hb] at cw
      go_wp2_with fail
      refine cw.mono ?_
      clear cw
      rintro e w2 ⟨rfl, hs⟩
      clear hc
      have c2 := hs.at'.blk.rule
      unfold dcells DC.to at c2
      dsimp only at c2
      go_wp2_with fail
      go_ret
      exact ⟨rfl, ⟨hs.at', hs1.turn.trans hs.turn fun _ hx => .inl hx⟩⟩
    · have d1 : decide ((q.at_ : Int) < (q.bs.length : Int)) = false := by simp; omega
      have d1' : decide (q.at_ < q.bs.length) = false := by simp; omega
      have he : endB q = q.bad := by unfold endB; rw [if_neg fun h => hl h.2]
      rw [he]
      go_enter Try.func31, Try.ntmps31
      go_wp2_with fail
      go_quiet (fail)
      go_wp2_with fail
      go_ret
      exact ⟨by simp [hb], ⟨hq.old (by (try unfold Kept); repeat (first | assumption | exact Below.refl _ _ | exact below_undrew (Below.refl _ _) | exact Below.mono (by assumption) (by first | (simp; done) | (simp; omega) | omega) | refine below_setRow ?_ (by first | (simp; done) | (simp; omega) | omega) _ | refine Below.setCell ?_ (by first | (simp; done) | (simp; omega) | omega) _ | refine Below.alloc ?_ (by first | (simp; done) | (simp; omega) | omega) _ | refine below_drewN ?_ _ | refine Below.drew ?_ | refine below_undrew ?_ | refine below_step ?_ (by assumption))) hB, Turn.of_below (by (try unfold Kept); repeat (first | assumption | exact Below.refl _ _ | exact below_undrew (Below.refl _ _) | exact Below.mono (by assumption) (by first | (simp; done) | (simp; omega) | omega) | refine below_setRow ?_ (by first | (simp; done) | (simp; omega) | omega) _ | refine Below.setCell ?_ (by first | (simp; done) | (simp; omega) | omega) _ | refine Below.alloc ?_ (by first | (simp; done) | (simp; omega) | omega) _ | refine below_drewN ?_ _ | refine Below.drew ?_ | refine below_undrew ?_ | refine below_step ?_ (by assumption)))⟩⟩
  · have d0 : decide (q.bad < 0) = false := by simpa using hb
    have he : endB q = q.bad := by unfold endB; rw [if_neg fun h => hb h.1]
    rw [he]
    go_enter Try.func31, Try.ntmps31
    go_wp2_with fail
    go_quiet (fail)
    go_wp2_with fail
    go_ret
    exact ⟨by simp [hb], ⟨hq.old (by (try unfold Kept); repeat (first | assumption | exact Below.refl _ _ | exact below_undrew (Below.refl _ _) | exact Below.mono (by assumption) (by first | (simp; done) | (simp; omega) | omega) | refine below_setRow ?_ (by first | (simp; done) | (simp; omega) | omega) _ | refine Below.setCell ?_ (by first | (simp; done) | (simp; omega) | omega) _ | refine Below.alloc ?_ (by first | (simp; done) | (simp; omega) | omega) _ | refine below_drewN ?_ _ | refine Below.drew ?_ | refine below_undrew ?_ | refine below_step ?_ (by assumption))) hB, Turn.of_below (by (try unfold Kept); repeat (first | assumption | exact Below.refl _ _ | exact below_undrew (Below.refl _ _) | exact Below.mono (by assumption) (by first | (simp; done) | (simp; omega) | omega) | refine below_setRow ?_ (by first | (simp; done) | (simp; omega) | omega) _ | refine Below.setCell ?_ (by first | (simp; done) | (simp; omega) | omega) _ | refine Below.alloc ?_ (by first | (simp; done) | (simp; omega) | omega) _ | refine below_drewN ?_ _ | refine Below.drew ?_ | refine below_undrew ?_ | refine below_step ?_ (by assumption)))⟩⟩
end Go.Proofs.Ytdokkhjgmhcpkaa
