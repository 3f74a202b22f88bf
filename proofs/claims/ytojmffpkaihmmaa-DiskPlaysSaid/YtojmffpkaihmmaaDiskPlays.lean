/- What a disk tells, whatever was asked before. -/
import Derived.Test.YtojmffpkaihmmaaDOne
import Derived.Test.YtojmffpkaihmmaaDiskApart
namespace Go.Proofs.Ytojmffpkaihmmaa
open Go.RowKit Go.Maps
set_option linter.unusedVariables false
set_option linter.unusedSimpArgs false

def newRef (d : Nat) : RefR := { d := d, la := none, lc := 0, fs := [], down := false, armed := false, left := 0, pa := none, pc := 0, plan := [] }
theorem newRef_at (w : World) : RefAt (w.alloc (.cells (refHead (newRef w.heap.size)) 51)) w.heap.size (newRef w.heap.size) := by
  refine ⟨Nat.le_refl _, Blk.new _ _ _, Own.nil _ _ _ _, fun f hf => by simp [newRef] at hf, Own.nil _ _ _ _, ?_⟩
  exact ⟨List.nodup_nil, fun f hf => by simp [RefR.p, newRef] at hf, fun f hf => by simp [RefR.p, newRef] at hf, fun f hf => by simp [RefR.p, newRef] at hf, by simp [RefR.p, newRef], by simp [RefR.p, newRef]⟩
def PlayR (w : World) (n : Nat) (f : Nat) (v3 v4 v20 : Value) (wr : World) : Prop :=
  ∃ (k : Nat) (r : DiskR) (R : RefR), k + f = n ∧ v20 = .int .i64 (k : Int) ∧ v3 = .pointer (some ⟨r.d, 0, none⟩) ∧ v4 = .pointer (some ⟨R.d, 0, none⟩) ∧ Both wr w.heap.size r R ∧ Below w.heap.size w wr
set_option maxRecDepth 20000 in
set_option maxHeartbeats 4000000 in
theorem diskPlays_any (w : World) (a2 : Option Addr) (n2 c2 : Nat) (l : List ActA) (h : ActRow w a2 n2 c2 l) :
    Calls Try.prog 5 #[.slice a2 n2 c2] w fun e w' => e = .returned (.bool true) ∧ Below w.heap.size w w' := by
  have HN := Lib.hid h.2.1
  have hm := Nat.le_trans h.2.2.1 h.2.2.2.1
  unfold maxLen at hm
  go_enter Try.func5, Try.ntmps5
  go_wp2_with fail
  refine (large_any w a2 n2 c2 l h).mono ?_
  rintro e w1 ⟨bb, rfl, hb1, hbb⟩
  have wake : ∀ (W : World), Below w.heap.size w W → Calls Try.prog 7 #[] W fun e w' => e = .returned (.bool true) ∧ Below w.heap.size w w' := fun W hW => (wakes_any W).mono (by rintro e w' ⟨h1, h2⟩; exact ⟨h1, below_step hW h2⟩)
  cases bb with
  | true =>
    clear hbb
    go_wp2_with fail
    refine (wake _ hb1).mono ?_
    rintro e w2 ⟨rfl, hb2⟩
    go_wp2_with fail
    go_ret
    exact ⟨rfl, hb2⟩
  | false =>
    clear hbb
    go_wp2_with fail
    refine (new_any' _).mono ?_
    rintro e w2 ⟨r0, rfl, hp0, h0, hb2⟩
    replace h0 := h0.lower hb1.size
    replace hb2 := below_step hb1 hb2
    have HP0 := Lib.hid hp0.out
    clear hp0
    go_upto_region 4 with fail
    have hst : PlayR w n2 n2 (.pointer (some ⟨r0.d, 0, none⟩)) (.pointer (some ⟨w2.heap.size, 0, none⟩)) (.int .i64 0) (w2.alloc (.cells (refHead (newRef w2.heap.size)) 51)) := by
      have hbe : Below w2.heap.size w2 (w2.alloc (.cells (refHead (newRef w2.heap.size)) 51)) := (Below.refl _ _).alloc (Nat.le_refl _) _
      refine ⟨0, r0, newRef w2.heap.size, by omega, rfl, rfl, rfl, ⟨h0.old hbe, (newRef_at w2).lower hb2.size, by rw [HP0.out]; exact Like.refl _, List.Pairwise.nil, fun x hx hx2 => ?_, by simp [newRef]⟩, below_step hb2 hbe⟩
      have h1 := (h0.lt hx).2
      have h2 := ((newRef_at w2).lt hx2).1
      omega
    unfold refHead newRef at hst
    clear h0 hb2 HP0 hb1
    go_wp2_with fail
    go_loopg [3, 4, 20] n2 (PlayR w n2)
    case atStart => exact hst
    case round =>
      clear hst
      obtain ⟨k, r, R, hk, rfl, rfl, rfl, hB, hbw⟩ := hrel
      by_cases hlt : k < n2
      · have hkl : k < l.length := by rw [HN.out]; exact hlt
        obtain ⟨xb, xo, rfl, hxl, hc⟩ := act_at h k hkl
        have hxok := h.2.2.2.2 l[k] (List.getElem_mem hkl)
        generalize l[k] = x at hc hxok
        have hcw : ∀ j (hj : j < (actCells x).length), wr.cell? ⟨xb, xo + k * 6 + j, none⟩ = some (actCells x)[j] := fun j hj => by rw [hbw.cell (show xb < w.heap.size from hxl)]; exact hc j hj
        have HC := Lib.hid hcw
        clear hc hcw
        go_upto_region 9 with (first | refine wpList_load_as rfl 44 actT (.tmp 22) rfl rfl (v := .agg (actCells x).toArray) rfl HC.out rfl ?_ | refine wpList_store_blk rfl 44 actT (.tmp 6) _ rfl rfl rfl (Blk.new _ _ _) rfl rfl rfl ?_)
        obtain ⟨X, hX⟩ : ∃ X, X = wr.heap.size := ⟨_, rfl⟩
        rw [← hX]
        refine wp_forget (fun W => Blk W X (actCells x).toArray 44 ∧ Both W w.heap.size r R ∧ Below w.heap.size w W) ⟨by rw [hX]; exact (Blk.new _ _ _).setRow _, ?_, by rw [hX]; exact below_setRow (hbw.alloc hbw.size _) hbw.size _⟩ ?_
        · refine hB.old ⟨rfl, rfl, rfl, by simp [World.setRow], fun y hy => ?_⟩
          rw [Go.setRow_other _ _ _ _ (by omega)]
          exact Below.heap_alloc _ _ _ hy
        clear HC hB hbw hX
        rintro W1 ⟨hX1, hB1, hbw1⟩
        have cX := hX1.rule
        unfold actCells at cX
        have hsz1 := hbw1.size
        by_cases e1 : x.kind = 12
        · have hpl1 := hB1.pl
          have hpr : r.plan = R.plan := hB1.like.rest.2.2.2.symm
          go_wp2_with fail
          refine (dcopy_any W1 _ r hB1.at' (by rw [hpr]; exact hpl1)).mono ?_
          rintro e w3 ⟨r', rfl, hlk3, hd3, hb3⟩
          have hB3 := hB1.old hb3
          have hbw3 := below_step hbw1 hb3
          go_wp2_with fail
          refine (make_any w3 _ r ⟨#[108, 101, 102, 116, 32, 98, 101, 104, 105, 110, 100]⟩ hB3.at' hbw3.size (by decide)).mono ?_
          rintro e w4 ⟨rfl, r'', hr'', hs4⟩
          have hz4 := hs4.turn.size
          have hz3 := hb3.size
          have hbw4 := hbw3.trans (hs4.below hB3.at' hbw3.size)
          have hR4 := foot_at hB3.rat hs4.turn hB3.apart
          have hd4 : DiskAt w4 w.heap.size r' := (hd3.turn hs4.turn fun y hy hy2 => by
            have h1 := (hd3.lt hy).1
            have h2 := (hB1.at'.lt hy2).2
            omega).lower hsz1
          go_wp2_with fail
          refine (rcopy_any w4 _ R hR4 hpl1).mono ?_
          rintro e w5 ⟨R', rfl, hR', hR5, hb5⟩
          have hbw5 := below_step hbw4 hb5
          go_wp2_with fail
          go_roundg (gk - 1)
          case measure => omega
          case rel =>
            refine ⟨k + 1, r', R', by omega, by go_num, rfl, rfl, ⟨hd4.old hb5, hR5.lower hbw4.size, ?_, ?_, fun y hy hy2 => ?_, ?_⟩, hbw5⟩
            · rw [hR']; exact hB1.like.trans hlk3.symm
            · have e : R'.names = R.names := by
                have q : ∀ x : RefR, x.names = x.p.fs.map (·.name) := fun x => by simp [RefR.names, RefR.p, FileQ.p]
                rw [q, q, hR']
              rw [e]; exact hB1.sorted
            · have h1 := (hd4.lt hy).2
              have h2 := (hR5.lt hy2).1
              omega
            · have e : R'.plan = R.plan := congrArg DiskP.plan hR'
              rw [e]; exact hpl1
        · go_wp2_with (refine wpList_load_blk rfl 44 actT (.tmp 6) rfl rfl hX1 rfl rfl ?_)
          refine (one_any w W1 r R x hbw1 hB1 hxok).mono ?_
          rintro e w3 ⟨rfl, ⟨r', R', hB3, e3, e4, hb3⟩, _⟩
          go_wp2_with fail
          go_roundg (gk - 1)
          case measure => omega
          case rel => exact ⟨k + 1, r', R', by omega, by go_num, by rw [e3], by rw [e4], hB3, hbw1.trans hb3⟩
      · have hkn : k = n2 := by omega
        have hcnt : (namesR R).length ≤ 64 ∧ ∀ nm ∈ namesR R, nm.size ≤ 140737488351232 := by
          have h1 := hB.rat.ok.count
          have h2 := hB.rat.ok.named
          unfold namesR
          split
          · simp
          · refine ⟨by simpa [RefR.p, RefR.names] using h1, fun nm hnm => ?_⟩
            obtain ⟨f, hf, rfl⟩ := List.mem_map.1 hnm
            have h3 := h2 f.p (List.mem_map.2 ⟨f, hf, rfl⟩)
            have h4 : f.nm.size ≤ 40 := by have h5 : okName f.nm = true := h3; unfold okName at h5; simp at h5; exact h5.2
            omega
        go_wp2_with fail
        refine (rnames_any wr _ R hB.rat).mono ?_
        rintro e w5 ⟨na, nn, nc, rfl, hnl, hown, hb5⟩
        have hB5 := hB.old hb5
        have hbw5 := below_step hbw hb5
        have hrow := hown.row
        have HL := Lib.hid hnl
        have hnn : nn ≤ 64 := by rw [← hnl]; exact hcnt.1
        obtain ⟨ln, hln⟩ : ∃ ln, ln = namesR R := ⟨_, rfl⟩
        rw [← hln] at hrow HL hcnt
        clear hln hnl hown hB hbw hb5
        have ok : ∀ nm ∈ ln, ∀ k : Int, ActOk w ⟨k, nm, ByteArray.empty, none, 0, [], 0, none, 0, []⟩ := fun nm hnm k => ⟨hcnt.2 nm hnm, by simp, fun i hi => by simp at hi, by simp, by simp, fun i hi => by simp at hi, by simp⟩
        obtain ⟨wo, rfl⟩ : ∃ wo : World, wo = w5 := ⟨_, rfl⟩
        go_wp2_with fail
        go_loopg [45] nn (fun f v wr => ∃ k : Nat, k + f = nn ∧ v = .int .i64 (k : Int) ∧ Below wo.heap.size wo wr)
        case atStart => exact ⟨0, by omega, rfl, Below.refl _ _⟩
        case round =>
          obtain ⟨k2, hk2, rfl, hbo⟩ := hrel
          have hBr := hB5.old hbo
          have hbwr := below_step hbw5 hbo
          by_cases hlt2 : k2 < nn
          · have hkl : k2 < ln.length := by rw [HL.out]; exact hlt2
            obtain ⟨b1, o1, rfl, hc1⟩ := hrow k2 (by simpa using hkl)
            have hl1 := World.block_lt_of_cell? wo _ hc1
            rw [List.getElem_map] at hc1
            have hokx := ok ln[k2] (List.getElem_mem hkl)
            generalize ln[k2] = nm at hc1 hokx
            unfold strV at hc1
            have hc2 := (hbo.cell hl1).trans hc1
            clear hc1
            go_wp2_with fail
            refine (one_any w _ r R ⟨3, nm, ByteArray.empty, none, 0, [], 0, none, 0, []⟩ hbwr hBr (hokx 3)).mono ?_
            rintro e w6 ⟨rfl, _, hq6⟩
            have hb6 := hq6 (.inl rfl)
            have hB6 := hBr.old hb6
            have hbw6 := below_step hbwr hb6
            go_wp2_with fail
            refine (one_any w _ r R ⟨4, nm, ByteArray.empty, none, 0, [], 0, none, 0, []⟩ hbw6 hB6 (hokx 4)).mono ?_
            rintro e w7 ⟨rfl, _, hq7⟩
            have hb7 := hq7 (.inr rfl)
            go_wp2_with fail
            go_roundg (gk - 1)
            case measure => omega
            case rel => exact ⟨k2 + 1, by omega, by go_num, below_step (below_step hbo hb6) hb7⟩
          · go_wp2_with fail
            refine (one_any w _ r R ⟨8, ByteArray.empty, ByteArray.empty, none, 0, [], 0, none, 0, []⟩ hbwr hBr ⟨by simp, by simp, fun i hi => by simp at hi, by simp, by simp, fun i hi => by simp at hi, by simp⟩).mono ?_
            rintro e w6 ⟨rfl, ⟨r', R', _, _, _, hb6⟩, _⟩
            have hbw6 := hbwr.trans hb6
            go_wp2_with fail
            refine (wake _ hbw6).mono ?_
            rintro e w7 ⟨rfl, hb7⟩
            go_wp2_with fail
            go_ret
            exact ⟨rfl, hb7⟩
end Go.Proofs.Ytojmffpkaihmmaa
