/- DiskSure's walk: what is sure stands behind a crash. -/
import Derived.Test.YtojmffpkaihmmaaDiskMore
import Derived.Test.YtojmffpkaihmmaaCameBools
namespace Go.Proofs.Ytojmffpkaihmmaa
open Go.RowKit Go.Maps Go.Shelf
set_option linter.unusedVariables false
set_option linter.unusedSimpArgs false

theorem DiskAt.lower {w : World} {B B' : Nat} {r : DiskR} (h : DiskAt w B r) (hB : B' ≤ B) : DiskAt w B' r :=
  ⟨Nat.le_trans hB h.ged, Nat.le_trans hB h.gem, h.blk, h.map, fun f hf => ⟨(h.files f hf).blk, Nat.le_trans hB (h.files f hf).ge, (h.files f hf).row.lower hB⟩, h.apart, h.plan.lower hB, h.ok⟩
def one (b : List UInt8) (s : Nat) : DiskP := ⟨[⟨nmA, b, s⟩], false, false, 0, []⟩
theorem one_append (b l : List UInt8) (s : Nat) (h : b.length + l.length ≤ 1048576) : appendP (one b s) nmA l = (one (b ++ l) s, 0) := by
  have e : ¬ maxFileN - b.length < l.length := by unfold maxFileN; omega
  simp [appendP, mayP, one, findP, goesP, updP, updF, e]
theorem one_sync (b : List UInt8) (s : Nat) : syncP (one b s) nmA = (one b b.length, 0) := by
  simp [syncP, mayP, one, findP, goesP, updP, updF]
def sureW (b : List UInt8) (s : Nat) (keep : Int) : Nat := s + (min (max keep 0) ((b.length : Int) - s)).toNat
theorem one_crash (b : List UInt8) (s : Nat) (keep : Int) : crashAll (one b s) [(⟨#[98]⟩, 1), (⟨#[97]⟩, keep), (⟨#[97]⟩, 7)] = (⟨[⟨nmA, b.take (sureW b s keep), sureW b s keep⟩], true, false, 0, []⟩, 0) := by
  have e1 : ((⟨#[98]⟩ : ByteArray) = nmA) = False := by simp [nmA]
  have e2 : ((⟨#[97]⟩ : ByteArray) = nmA) = True := by simp [nmA]
  simp [crashAll, one, crashP, crashF, keepN, keepI, e1, e2, sureW]
theorem down_open (b : List UInt8) (n : Nat) : openP ⟨[⟨nmA, b, n⟩], true, false, 0, []⟩ = (one b n, 0) := rfl
theorem one_read (b : List UInt8) (n : Nat) : readP (one b n) ⟨#[97]⟩ = (b, 0) := by show readP (one b n) nmA = (b, 0); simp [readP, one, findP]
theorem one_sure (b : List UInt8) (n : Nat) : sureP (one b n) ⟨#[97]⟩ = (n, 0) := by show sureP (one b n) nmA = (n, 0); simp [sureP, one, findP]
def allK (ls : List (List UInt8)) (k : Nat) : List UInt8 := (ls.take k).flatten
def sureK (ls : List (List UInt8)) (ss : List Bool) : Nat → Nat
  | 0 => 0
  | k + 1 => if ss[k]? = some true then (allK ls (k + 1)).length else sureK ls ss k
def total (ls : List (List UInt8)) (k : Nat) : Nat := ((ls.take k).map List.length).sum
theorem allK_length (ls : List (List UInt8)) (k : Nat) : (allK ls k).length = total ls k := by simp [allK, total, List.length_flatten]
theorem allK_succ (ls : List (List UInt8)) (k : Nat) (h : k < ls.length) : allK ls (k + 1) = allK ls k ++ ls[k] := by
  unfold allK
  rw [List.take_succ_eq_append_getElem h, List.flatten_append]
  simp
theorem total_succ (ls : List (List UInt8)) (k : Nat) (h : k < ls.length) : total ls (k + 1) = total ls k + ls[k].length := by
  rw [← allK_length, allK_succ ls k h, List.length_append, allK_length]
theorem total_le (ls : List (List UInt8)) (hz : ∀ r, (h : r < ls.length) → ls[r].length ≤ 140737488351232) : ∀ k, k ≤ ls.length → total ls k ≤ k * 140737488351232
  | 0, _ => by simp [total]
  | k + 1, h => by
    rw [total_succ ls k h]
    have := total_le ls hz k (by omega)
    have := hz k h
    omega
theorem total_mono (ls : List (List UInt8)) (k : Nat) (h : k ≤ ls.length) : total ls k ≤ total ls ls.length := by
  rw [← allK_length, ← allK_length]
  have e : allK ls ls.length = allK ls k ++ (ls.drop k).flatten := by
    unfold allK
    rw [List.take_length, ← List.flatten_append, List.take_append_drop]
  rw [e, List.length_append]; omega
theorem sureK_le (ls : List (List UInt8)) (ss : List Bool) : ∀ k, k ≤ ls.length → sureK ls ss k ≤ total ls k
  | 0, _ => by simp [sureK]
  | k + 1, h => by
    unfold sureK
    have h1 := sureK_le ls ss k (by omega)
    have h2 := total_succ ls k h
    split
    · rw [allK_length]; exact Nat.le_refl _
    · omega
theorem strOf_append (l m : List UInt8) : strOf l ++ strOf m = strOf (l ++ m) := by
  apply ByteArray.ext
  simp [strOf]
theorem strOf_extract (l : List UInt8) (n : Nat) : (strOf l).extract 0 n = strOf (l.take n) := by
  apply ByteArray.ext
  simp [strOf]
def SumRel (w : World) (ls : List (List UInt8)) (n : Nat) (f : Nat) (v i : Value) (w' : World) : Prop :=
  ∃ (k : Nat) (x : Int), k + f = n ∧ i = .int .i64 (k : Int) ∧ v = .int .i64 x ∧ (n ≤ 100 → x = (total ls k : Int)) ∧ Below w.heap.size w w'
structure SureRel (w : World) (ls : List (List UInt8)) (ss : List Bool) (d0 k : Nat) (all sr : Value) (r : DiskR) (w' : World) : Prop where
  all : all = .string (strOf (allK ls k))
  sr : sr = .int .i64 (sureK ls ss k : Int)
  p : Hid (r.p = one (allK ls k) (sureK ls ss k))
  at' : DiskAt w' w.heap.size r
  d : Hid (r.d = d0)
  below : Below w.heap.size w w'
set_option maxRecDepth 20000 in
set_option maxHeartbeats 2000000 in
theorem diskSure_any (w : World) (a0 a1 : Option Addr) (n0 n1 c0 c1 : Nat) (ls : List (List UInt8)) (ss : List Bool) (keep : Int) (hl : PiecesAt w a0 ls) (hn : ls.length = n0) (hz : ∀ r, (h : r < ls.length) → ls[r].length ≤ 140737488351232) (hm0 : n0 ≤ maxLen)
    (hs : BoolRow w a1 n1 c1 ss) : Calls Try.prog 3 #[.slice a0 n0 c0, .slice a1 n1 c1, .int .i64 keep] w fun e w' => e = .returned (.bool true) ∧ Below w.heap.size w w' := by
  have HN := Lib.hid hn
  have HZ := Lib.hid hz
  have HS1 := Lib.hid hs.2.1
  clear hn hz
  unfold maxLen at hm0
  have hsm : ByteArray.size ⟨#[97]⟩ ≤ maxLen := by decide
  go_enter Try.func3, Try.ntmps3
  go_wp2_with fail
  go_loopg [7, 21] n0 (SumRel w ls n0)
  case atStart => exact ⟨0, 0, by omega, rfl, rfl, fun _ => by simp [total], Below.refl _ _⟩
  case round =>
    obtain ⟨k, x, hk, rfl, rfl, hx, hb⟩ := hrel
    have HX := Lib.hid hx
    clear hx
    by_cases hlt : k < n0
    · have hkl : k < ls.length := by rw [HN.out]; exact hlt
      obtain ⟨b1, o1, A1, C1, rfl, hc1, hp1, _, _⟩ := hl k hkl
      have hc1' : wr.cell? ⟨b1, o1 + k, none⟩ = some (.slice A1 ls[k].length C1) := by rw [hb.cell (World.block_lt_of_cell? w _ hc1)]; exact hc1
      have HT := Lib.hid (total_succ ls k hkl)
      have HL := Lib.hid (HZ.out k hkl)
      clear hc1 hp1
      generalize ls[k] = pc at *
      go_wp2_with fail
      go_roundg (gk - 1)
      case measure => omega
      case rel =>
        refine ⟨k + 1, _, by omega, by go_num, rfl, fun h100 => ?_, hb⟩
        have h1 := HX.out h100
        have h2 := HT.out
        have h3 := HL.out
        have h4 := total_le ls HZ.out k (by omega)
        rw [h1, h2]
        unfold wrap64
        have h5 : k * 140737488351232 ≤ 100 * 140737488351232 := Nat.mul_le_mul_right _ (by omega)
        omega
    · have hkn : k = n0 := by omega
      by_cases hbig : 20000 < x ∨ 100 < n0
      · have HB := Lib.hid hbig
        clear hbig
        by_cases hx20 : 20000 < x
        · have t0 : decide ((20000 : Int) < x) = true := by simp [hx20]
          go_wp2_with fail
          refine (wakes_any _).mono ?_
          rintro e w1 ⟨rfl, hb1⟩
          go_wp2_with fail
          go_ret
          exact ⟨rfl, below_step hb hb1⟩
        · have t0 : decide ((20000 : Int) < x) = false := by simp; omega
          have t1 : decide ((100 : Int) < (n0 : Int)) = true := by simp; have := HB.out; omega
          go_wp2_with fail
          refine (wakes_any _).mono ?_
          rintro e w1 ⟨rfl, hb1⟩
          go_wp2_with fail
          go_ret
          exact ⟨rfl, below_step hb hb1⟩
      · have t0 : decide ((20000 : Int) < x) = false := by simp; omega
        have t1 : decide ((100 : Int) < (n0 : Int)) = false := by simp; omega
        have htot : total ls ls.length ≤ 20000 := by
          have := HX.out (by omega)
          rw [hkn] at this
          rw [HN.out]; omega
        have hn100 : n0 ≤ 100 := by omega
        have HTOT := Lib.hid htot
        clear hbig htot
        go_wp2_with fail
        refine (new_any' _).mono ?_
        rintro e w1 ⟨r0, rfl, hp0, h0, hb0⟩
        replace hb0 := below_step hb hb0
        replace h0 := h0.lower hb.size
        have hz0 := hb0.size
        go_wp2_with fail
        refine (after (x := fun p => makeP p ⟨#[97]⟩) hp0 k1 h0 hz0 (make_any _ _ r0 ⟨#[97]⟩ h0 hz0 hsm)).mono ?_
        rintro e w2 ⟨rfl, r1, hp1, h1, hd1, hb1⟩
        replace hb1 := hb0.trans hb1
        go_wp2_with fail
        have hst : SureRel w ls ss r0.d 0 (.string ⟨#[]⟩) (.int .i64 0) r1 w2 := ⟨rfl, rfl, hp1, h1, hd1, hb1⟩
        obtain ⟨d0, hd0⟩ : ∃ d0, d0 = r0.d := ⟨_, rfl⟩
        rw [← hd0] at hst ⊢
        clear hd0 hd1 hp0 h0 hb0 hz0 hp1 h1 hb1 hkn t0 t1 hb
        go_loopg [10, 11, 50] n0 (fun f all sr i w' => ∃ (k : Nat) (r : DiskR), k + f = n0 ∧ i = .int .i64 (k : Int) ∧ SureRel w ls ss d0 k all sr r w')
        case atStart => exact ⟨0, r1, by omega, rfl, hst⟩
        case round =>
          clear hst
          obtain ⟨k, r, hk, rfl, rfl, rfl, hp, hat, hd, hb⟩ := hrel
          by_cases hlt : k < n0
          · have hkl : k < ls.length := by rw [HN.out]; exact hlt
            obtain ⟨b1, o1, A1, C1, rfl, hc1, hp1, _, hle1⟩ := hl k hkl
            have hc1' : wr.cell? ⟨b1, o1 + k, none⟩ = some (.slice A1 ls[k].length C1) := by rw [hb.cell (World.block_lt_of_cell? w _ hc1)]; exact hc1
            have hp1' : BytesAt wr A1 ls[k] := hp1.below hb
            have hts := total_succ ls k hkl
            have htm := total_mono ls (k + 1) hkl
            have hto := HTOT.out
            have hzk := HZ.out k hkl
            have HAS := Lib.hid (allK_succ ls k hkl)
            have hal : (allK ls k).length + ls[k].length ≤ 1048576 := by rw [allK_length]; omega
            clear hc1 hts htm hto
            generalize ls[k] = pc at *
            have ca := append_any wr _ r ⟨#[97]⟩ hat hb.size hsm A1 pc.length C1 pc hp1' rfl (by unfold maxLen; omega)
            rw [hd.out] at ca
            have HAL := Lib.hid hal
            clear hal
            go_wp2_with fail
            refine (after (x := fun p => appendP p ⟨#[97]⟩ pc) hp (one_append _ _ _ HAL.out) hat hb.size ca).mono ?_
            clear ca
            rintro e w2 ⟨rfl, r2, hp2, hat2, hd2, hb2⟩
            have hb02 := hb.trans hb2
            have hst2 : (convert 24 9 (.slice A1 pc.length C1)).run Try.prog w2 = .ok (.string (strOf pc)) w2 := run_string_of (P := Try.prog) w2 (c := C1) Try.underlying24 Try.underlying5 Try.underlying9 (show BytesAt w2 A1 pc from hp1.below hb02) rfl
            have hcat := strOf_append (allK ls k) pc
            rw [← HAS.out] at hcat
            have hcs : (strOf (allK ls k) ++ strOf pc).size = (allK ls (k + 1)).length := by rw [hcat, strOf_size]
            have hadd : ∀ W, (Op.stringOp .add (strOf (allK ls k)) (strOf pc)).run Try.prog W = .ok (.string (strOf (allK ls k) ++ strOf pc)) W := fun W => run_string_add_sum W _ _ (by have := HAL.out; rw [strOf_size, strOf_size]; omega)
            have HCAT := Lib.hid hcat
            have HCS := Lib.hid hcs
            have hp2' : Hid (r2.p = one (allK ls (k + 1)) (sureK ls ss k)) := by rw [HAS.out]; exact hp2
            clear hcat hcs hp2
            have hd2' := Lib.hid (hd2.out.trans hd.out)
            cases hsk : ss[k]? with
            | none =>
              have hk1 : n1 ≤ k := by rw [← HS1.out]; exact List.getElem?_eq_none_iff.1 hsk
              have t0 : decide ((k : Int) < (n1 : Int)) = false := by simp; omega
              have HSK := Lib.hid hsk
              clear hsk
              go_wp2_with fail
              go_roundg (gk - 1)
              case measure => omega
              case rel =>
                refine ⟨k + 1, r2, by omega, by go_num, ⟨by rw [HCAT.out], ?_, ?_, hat2, hd2', hb02⟩⟩
                · rw [show sureK ls ss (k + 1) = sureK ls ss k by rw [sureK, HSK.out]; rfl]
                · have e : sureK ls ss (k + 1) = sureK ls ss k := by rw [sureK, HSK.out]; rfl
                  rw [e]; exact hp2'
            | some bb =>
              obtain ⟨hk1, hbe⟩ := List.getElem?_eq_some_iff.1 hsk
              have HK1 := Lib.hid hk1
              have hk1' : k < n1 := by rw [← HS1.out]; exact hk1
              have t0 : decide ((k : Int) < (n1 : Int)) = true := by simp; omega
              obtain ⟨b2, o2, rfl, hcb⟩ := hs.1 k (by rw [List.length_map]; exact hk1)
              rw [List.getElem_map, hbe] at hcb
              have hcb2 : w2.cell? ⟨b2, o2 + k, none⟩ = some (.bool bb) := by rw [hb02.cell (World.block_lt_of_cell? w _ hcb)]; exact hcb
              have HSK := Lib.hid hsk
              clear hsk hbe hcb
              cases bb with
              | false =>
                go_wp2_with fail
                go_roundg (gk - 1)
                case measure => omega
                case rel =>
                  refine ⟨k + 1, r2, by omega, by go_num, ⟨by rw [HCAT.out], ?_, ?_, hat2, hd2', hb02⟩⟩
                  · rw [show sureK ls ss (k + 1) = sureK ls ss k by rw [sureK, HSK.out]; rfl]
                  · have e : sureK ls ss (k + 1) = sureK ls ss k := by rw [sureK, HSK.out]; rfl
                    rw [e]; exact hp2'
              | true =>
                have cs := sync_any w2 _ r2 ⟨#[97]⟩ hat2 hb02.size hsm
                rw [hd2'.out] at cs
                go_wp2_with fail
                refine (after (x := fun p => syncP p ⟨#[97]⟩) hp2' (one_sync _ _) hat2 hb02.size cs).mono ?_
                clear cs
                rintro e w3 ⟨rfl, r3, hp3, hat3, hd3, hb3⟩
                go_wp2_with fail
                go_roundg (gk - 1)
                case measure => omega
                case rel =>
                  have e : sureK ls ss (k + 1) = (allK ls (k + 1)).length := by rw [sureK, HSK.out]; rfl
                  refine ⟨k + 1, r3, by omega, by go_num, ⟨by rw [HCAT.out], ?_, ?_, hat3, Lib.hid (hd3.out.trans hd2'.out), hb02.trans hb3⟩⟩
                  · rw [e]; first | rw [HCS.out] | (rw [HAS.out, List.length_append]; simp [strOf_size])
                  · rw [e]; exact hp3
          · have hkn : k = n0 := by omega
            obtain ⟨b, hbe⟩ : ∃ b, b = allK ls k := ⟨_, rfl⟩
            obtain ⟨s, hse⟩ : ∃ s, s = sureK ls ss k := ⟨_, rfl⟩
            have hsb : s ≤ b.length := by rw [hbe, hse, allK_length]; exact sureK_le ls ss k (by rw [HN.out]; omega)
            have hbl : b.length ≤ 20000 := by rw [hbe, allK_length]; have := total_mono ls k (by rw [HN.out]; omega); have := HTOT.out; omega
            rw [← hbe, ← hse] at hp ⊢
            clear hbe hse
            have hbs : (strOf b).size = b.length := strOf_size b
            go_wp2_with fail
            obtain ⟨WA, hWA⟩ : ∃ WA, WA = wr.alloc (.cells #[.string ⟨#[98]⟩, .int .i64 1, .string ⟨#[97]⟩, .int .i64 keep, .string ⟨#[97]⟩, .int .i64 7] 33) := ⟨_, rfl⟩
            have ha5 : Below wr.heap.size wr WA := by rw [hWA]; exact (Below.refl _ _).alloc (Nat.le_refl _) _
            have hrow : RowAt WA (some ⟨wr.heap.size, 0, none⟩) (([(⟨#[98]⟩, 1), (⟨#[97]⟩, keep), (⟨#[97]⟩, 7)] : PlanP).flatMap pieceV) := by rw [hWA]; exact RowAt.new _ _ _
            have hz5 : w.heap.size ≤ WA.heap.size := Nat.le_trans hb.size ha5.size
            have hltA : wr.heap.size < WA.heap.size := by rw [hWA, World.size_alloc]; omega
            have cc := (crash_any WA _ r (some ⟨wr.heap.size, 0, none⟩) 3 3 [(⟨#[98]⟩, 1), (⟨#[97]⟩, keep), (⟨#[97]⟩, 7)] (hat.old ha5) hz5 hrow rfl (by decide) (fun ad ha f hf => by cases ha; have := (hat.files f hf).blk.lt; show f.blk ≠ wr.heap.size; omega) (fun ad ha _ => by cases ha; exact hltA)).mono (R' := fun e w' => e = .returned (.int .i64 (crashAll r.p [(⟨#[98]⟩, 1), (⟨#[97]⟩, keep), (⟨#[97]⟩, 7)]).2) ∧ ∃ r', r'.p = (crashAll r.p [(⟨#[98]⟩, 1), (⟨#[97]⟩, keep), (⟨#[97]⟩, 7)]).1 ∧ DStep w.heap.size WA r w' r') (by rintro e w' ⟨r', h1, h2, h3⟩; exact ⟨h1, r', h2, h3⟩)
            rw [hd.out] at cc
            rw [← hWA]
            refine (after (x := fun p => crashAll p [(⟨#[98]⟩, 1), (⟨#[97]⟩, keep), (⟨#[97]⟩, 7)]) hp (one_crash b s keep) (hat.old ha5) hz5 cc).mono ?_
            clear cc
            rintro e w3 ⟨rfl, r3, hp3, hat3, hd3, hb3⟩
            replace hb3 := (hb.trans (ha5.mono hb.size)).trans hb3
            replace hd3 := Lib.hid (hd3.out.trans hd.out)
            clear hrow hltA hz5 ha5 hWA
            have co := open_any w3 _ r3 hat3
            rw [hd3.out] at co
            go_wp2_with fail
            refine (after (x := fun p => openP p) hp3 (down_open _ _) hat3 hb3.size co).mono ?_
            clear co
            rintro e w4 ⟨rfl, r4, hp4, hat4, hd4, hb4⟩
            replace hb4 := hb3.trans hb4
            replace hd4 := Lib.hid (hd4.out.trans hd3.out)
            have cr := read_any w4 _ r4 ⟨#[97]⟩ hat4 hsm
            rw [hd4.out, hp4.out, one_read] at cr
            go_wp2_with fail
            refine cr.mono ?_
            clear cr
            rintro e w5 ⟨ra, rn, rc, rfl, hrn, hown, hb5⟩
            have hat5 := hat4.old hb5
            have cu := sure_any w5 _ r4 ⟨#[97]⟩ hat5 hsm
            rw [hd4.out, hp4.out, one_sure] at cu
            go_wp2_with fail
            refine cu.mono ?_
            clear cu
            rintro e w6 ⟨rfl, hb6⟩
            have hown6 := hown.old hb6
            obtain ⟨K, hK⟩ : ∃ K, K = sureW b s keep := ⟨_, rfl⟩
            have hKb : K ≤ b.length := by rw [hK]; unfold sureW; omega
            rw [← hK] at hrn hown6 ⊢
            have hrnK : rn = K := by rw [← hrn, List.length_take]; omega
            have HK : Hid ((K : Int) = s + min (max keep 0) ((b.length : Int) - s)) := Lib.hid (by rw [hK]; unfold sureW; omega)
            subst hrnK
            clear hrn hown hK
            have hrd : BytesAt w6 ra (b.take rn) := hown6.row
            have HTL := Lib.hid (show (b.take rn).length = rn by rw [List.length_take]; omega)
            clear hown6
            have hcut : (strOf b).size = b.length := strOf_size b
            have e1 : IntKind.i64.wrap ((b.length : Int) - (s : Int)) = (b.length : Int) - s := by rw [IntKind.wrap_i64]; omega
            go_upto_region 30 with fail
            have hw : (s : Int) + (if (b.length : Int) - (s : Int) < (if keep < 0 then 0 else keep) then (b.length : Int) - (s : Int) else (if keep < 0 then 0 else keep)) = (rn : Int) := by
              have := HK.out
              split <;> split <;> omega
            rw [hw]
            clear e1 hw
            generalize (if (b.length : Int) - (s : Int) < (if keep < 0 then 0 else keep) then (b.length : Int) - (s : Int) else (if keep < 0 then 0 else keep)) = vA
            generalize (if keep < 0 then (0 : Int) else keep) = vB
            have hst6 : ∀ W, Old w6.drew W → (convert 24 9 (.slice ra rn rc)).run Try.prog W = .ok (.string (strOf (b.take rn))) W := fun W hW => run_string_of (P := Try.prog) W (c := rc) Try.underlying24 Try.underlying5 Try.underlying9 (show BytesAt W ra (b.take rn) from (RowAt.below (RowAt.drew hrd) (hW : Below w6.drew.heap.size w6.drew W))) HTL.out
            have hKb' : (rn : Int) ≤ (b.length : Int) := by omega
            refine wp_region_old (0 :: 1 :: 2 :: 3 :: 4 :: 5 :: 6 :: 7 :: 8 :: 9 :: 10 :: 11 :: 12 :: 13 :: 14 :: 15 :: 16 :: 17 :: 18 :: 19 :: 20 :: 21 :: 22 :: 23 :: 24 :: 25 :: 26 :: 27 :: 28 :: 29 :: []) (by kernel_rfl) (by kernel_rfl) (fun c a d v w h => by cases d <;> exact h) ?_
            have heq : ((strOf (b.take rn)).toList == ((strOf b).extract 0 rn).toList) = true := by rw [strOf_extract]; simp
            repeat (first | (refine lex_skip rfl (by rfl) ?_; simp only [Act.put, List.setIfInBounds_toArray, List.set]) | (refine lex_quiet (v := ?_) rfl rfl (by rfl) ?_ ?_; rotate_left; (intro W hW; go_simp); (try with_reducible rfl); simp only [Act.put, List.setIfInBounds_toArray, List.set]))
            refine lex_loud rfl rfl (by rfl) (fun K hK => ?_)
            go_wp2_with fail
            refine (wakes_any _).mono ?_
            rintro e w7 ⟨rfl, hb7⟩
            go_wp2_with fail
            refine hK _ _ hb7 ?_
            clear hK K
            repeat (first | (refine lex_skip rfl (by rfl) ?_; simp only [Act.put, List.setIfInBounds_toArray, List.set]) | (refine lex_quiet (v := ?_) rfl rfl (by rfl) ?_ ?_; rotate_left; (intro W hW; go_simp); (try with_reducible rfl); simp only [Act.put, List.setIfInBounds_toArray, List.set]))
            refine lex_nil ?_
            go_wp2_with fail
            go_ret
            exact ⟨rfl, ((hb4.trans (hb5.mono hb4.size)).trans (hb6.mono (Nat.le_trans hb4.size hb5.size))).trans (Below.mono (⟨hb7.os, hb7.tape, hb7.output, hb7.size, hb7.block⟩ : Below w6.heap.size w6 w7) (Nat.le_trans hb4.size (Nat.le_trans hb5.size hb6.size)))⟩
end Go.Proofs.Ytojmffpkaihmmaa
