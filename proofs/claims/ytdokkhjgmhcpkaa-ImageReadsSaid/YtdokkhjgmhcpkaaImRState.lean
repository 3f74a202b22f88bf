/- Package image, reading: a side, a state, an action. -/
import Derived.Test.YtdokkhjgmhcpkaaImRList
namespace Go.Proofs.Ytdokkhjgmhcpkaa
open Go.RowKit
set_option linter.unusedVariables false
set_option linter.unusedSimpArgs false
set_option maxRecDepth 20000

theorem thn_ok {α β : Type} (v : α) (a : Nat) (f : α → Nat → Rd β) : thn (.ok (v, a)) f = f v a := rfl
theorem set_ne {cs : Array Value} {i j : Nat} {v : Value} (h : i ≠ j) : (cs.setIfInBounds i v)[j]? = cs[j]? := by
  rw [Array.getElem?_setIfInBounds, if_neg h]
/-- The result of reading a thing with rows of its own. -/
def ORes {α H : Type} (B : Nat) (w : World) (q : RC) (r : Rd α) (Ow : World → α → H → Prop) (f : α → H → Array Value) (xb : Nat) (t : TypeId) (e : Ending) (w' : World) : Prop := match r with
  | .error p => e = .panicked (wrongP p) ∧ RBad w q w' xb t
  | .ok (l, a) => e = .returned (.tuple #[]) ∧ ∃ s, Ow w' l s ∧ RGot B w q w' (q.to a) xb (f l s) t
section
variable {α H : Type} {B : Nat} {w w' : World} {q : RC} {r : Rd α} {Ow : World → α → H → Prop} {f : α → H → Array Value} {xb : Nat} {t : TypeId} {e : Ending}
theorem ORes.err (h : ORes B w q r Ow f xb t e w') {p : Nat} (hr : r = .error p) : e = .panicked (wrongP p) ∧ RBad w q w' xb t := by subst hr; exact h
theorem ORes.ok (h : ORes B w q r Ow f xb t e w') {v : α} {a : Nat} (hr : r = .ok (v, a)) : e = .returned (.tuple #[]) ∧ ∃ s, Ow w' v s ∧ RGot B w q w' (q.to a) xb (f v s) t := by subst hr; exact h
end
section
variable {w w' : World} {B : Nat} {s : Sl} {F : Nat → Prop}
theorem Own.turn {e : TypeId} {size : Nat} {a : Option Addr} {n c : Nat} {vs : List Value} (h : Own w B e size a n c vs) (ht : Turn F w w') (hF : ∀ x, F x → x < B) : Own w' B e size a n c vs :=
  h.keepAt fun x hx => by
    obtain ⟨h1, h2, _⟩ := h.block_lt hx
    exact ht.block _ h2 fun hf => by have := hF _ hf; omega
theorem OwnInts.turn {l : List Int} (h : OwnInts w B s l) (ht : Turn F w w') (hF : ∀ x, F x → x < B) : OwnInts w' B s l := ⟨h.1.turn ht hF, (h.1.turn ht hF).row, h.2.2⟩
theorem OwnThings.turn {l : List ThingL} (h : OwnThings w B s l) (ht : Turn F w w') (hF : ∀ x, F x → x < B) : OwnThings w' B s l := ⟨h.1.turn ht hF, (h.1.turn ht hF).row, h.2.2⟩
theorem OwnPairs.turn {l : List PairL} (h : OwnPairs w B s l) (ht : Turn F w w') (hF : ∀ x, F x → x < B) : OwnPairs w' B s l := ⟨h.1.turn ht hF, (h.1.turn ht hF).row, h.2.2⟩
theorem SideOwn.turn {p : SideP} {h : SideH} (a : SideOwn w B p h) (ht : Turn F w w') (hF : ∀ x, F x → x < B) : SideOwn w' B p h :=
  ⟨a.life, a.mana, a.most, a.deck.turn ht hF, a.hand.turn ht hF, a.grave.turn ht hF, a.units.turn ht hF, a.told.turn ht hF⟩
end
def slV (s : Sl) : Value := .slice s.a s.n s.c
def rowsV (hs : List Sl) : List Value := hs.map slV
/-- Several rows of numbers, each the call's own. -/
def OwnAll (w : World) (B : Nat) (hs : List Sl) (ls : List (List Int)) : Prop := hs.length = ls.length ∧ ∀ j (h1 : j < hs.length) (h2 : j < ls.length), OwnInts w B hs[j] ls[j]
theorem OwnAll.turn {w w' : World} {B : Nat} {hs : List Sl} {ls : List (List Int)} {F : Nat → Prop} (h : OwnAll w B hs ls) (ht : Turn F w w') (hF : ∀ x, F x → x < B) : OwnAll w' B hs ls := ⟨h.1, fun j h1 h2 => (h.2 j h1 h2).turn ht hF⟩
theorem OwnAll.snoc {w : World} {B : Nat} {hs : List Sl} {ls : List (List Int)} (h : OwnAll w B hs ls) {s : Sl} {l : List Int} (ho : OwnInts w B s l) : OwnAll w B (hs ++ [s]) (ls ++ [l]) := by
  refine ⟨by simp [h.1], fun j h1 h2 => ?_⟩
  by_cases hj : j < hs.length
  · rw [List.getElem_append_left hj, List.getElem_append_left (by have := h.1; omega)]
    exact h.2 j hj _
  · have hj2 : j = hs.length := by simp at h1; omega
    have h3 := h.1
    rw [List.getElem_append_right (by omega), List.getElem_append_right (by omega)]
    simpa [hj2, h3] using ho
def SideR (w : World) (B : Nat) (q : RC) (xb i : Nat) (C : Array Value) (t : TypeId) (R0 : Rd (List (List Int))) (f : Nat) (v : Value) (wr : World) : Prop :=
  ∃ (k : Nat) (hs : List Sl) (ls : List (List Int)) (a : Nat), k + f = 3 ∧ v = .int .i64 (k : Int) ∧ hs.length = k ∧ OwnAll wr w.heap.size hs ls ∧ RGot B w q wr (q.to a) xb (putRow C (i + 3) (rowsV hs)) t ∧
    R0 = (match rdMany (rdInts q.bs) (3 - k) a with
      | .error p => .error p
      | .ok (m, b) => .ok (ls ++ m, b))
theorem rdSide_lists (bs : List UInt8) (a : Nat) (h : a + 8 * 3 ≤ bs.length) : rdSide bs a = (match rdMany (rdInts bs) 3 (a + 8 * 3) with
    | .error p => .error p
    | .ok (ls, b) => thn (rdThings bs b) fun units b => thn (rdInts bs b) fun told b => .ok (⟨numAt bs a, numAt bs (a + 8), numAt bs (a + 16), ls.headD [], (ls.drop 1).headD [], (ls.drop 2).headD [], units, told⟩, b)) := by
  unfold rdSide
  rw [rd3_ok bs a (fun life mana most a => thn (rdInts bs a) fun deck a => thn (rdInts bs a) fun hand a => thn (rdInts bs a) fun grave a => thn (rdThings bs a) fun units a => thn (rdInts bs a) fun told a => .ok ((⟨life, mana, most, deck, hand, grave, units, told⟩ : SideP), a)) h]
  simp only [rdMany]
  cases rdInts bs (a + 8 * 3) with
  | error p => rfl
  | ok x =>
    dsimp only [thn]
    cases rdInts bs x.2 with
    | error p => rfl
    | ok y =>
      dsimp only [thn]
      cases rdInts bs y.2 with
      | error p => rfl
      | ok z => rfl
set_option maxHeartbeats 4000000 in
theorem side_r (w : World) (B : Nat) (q : RC) (xb i : Nat) (cs : Array Value) (t : TypeId) (p0 : SideP) (h0 : SideH) (hq : RAt w B q) (hB : B ≤ w.heap.size) (hx : Blk w xb cs t) (hi : HasRow cs i (sideCells p0 h0)) (hxB : B ≤ xb) (hxc : xb ≠ q.c) :
    Calls Try.prog 47 #[.pointer (some ⟨q.c, 0, none⟩), .pointer (some ⟨xb, i, none⟩)] w (ORes B w q (rdSide q.bs q.at_) (fun W => SideOwn W w.heap.size) (fun p h => putRow cs i (sideCells p h)) xb t) := by
  have hmf : ∀ (fn : Fn) (first cap : Array Value) (w : World), (Instr.makeFunc fn first cap).run Try.prog w = .ok (.func fn first cap) w := fun _ _ _ _ => rfl
  have hi3 : ∀ j, j < 3 → ∃ v, cs[i + j]? = some (.int .i64 v) := fun j hj => by
    have := hi j (by show j < 8; omega)
    rcases (show j = 0 ∨ j = 1 ∨ j = 2 by omega) with rfl | rfl | rfl
    · exact ⟨_, this⟩
    · exact ⟨_, this⟩
    · exact ⟨_, this⟩
  have hil : ∀ j, j < 3 → ∃ s : Sl, cs[i + (3 + j)]? = some (.slice s.a s.n s.c) := fun j hj => by
    have := hi (3 + j) (by show 3 + j < 8; omega)
    rcases (show j = 0 ∨ j = 1 ∨ j = 2 by omega) with rfl | rfl | rfl
    · exact ⟨_, this⟩
    · exact ⟨_, this⟩
    · exact ⟨_, this⟩
  have hi6 : cs[i + 6]? = some (.slice h0.units.a h0.units.n h0.units.c) := hi 6 (by show 6 < 8; omega)
  have hi7 : cs[i + 7]? = some (.slice h0.told.a h0.told.n h0.told.c) := hi 7 (by show 7 < 8; omega)
  have hxcl := hq.blk.lt
  have hxl := hx.lt
  have hF : ∀ x, (x = q.c ∨ x = xb) → x < w.heap.size := fun x hx => by rcases hx with rfl | rfl <;> assumption
  clear hi
  go_enter Try.func47, Try.ntmps47
  go_wp2_with fail
  refine wp_region_treeR false (KeepAt (fun _ => False)) (KeepAt.refl _) (fun _ _ _ h1 h2 => KeepAt.trans h1 h2) (.step 0 (.step 1 (.step 2 (.step 3 (.step 4 (.step 5 (.step 6 (.step 7 (.step 8 (.step 9 (.step 10 (.step 11 .done)))))))))))) (by kernel_rfl) (by kernel_rfl) (fun c a d v w h => by cases d <;> exact h) ?_
  repeat (first | (refine tree_skip rfl (by rfl) ?_; simp only [Act.put, List.setIfInBounds_toArray, List.set]) | (refine tree_quiet (v := ?_) rfl rfl (by rfl) ?_ ?_; rotate_left; (intro W hW; go_simp); (try with_reducible rfl); simp only [Act.put, List.setIfInBounds_toArray, List.set]))
  refine tree_loud rfl rfl (by rfl) (fun K hK => ?_); go_wp2_with fail
  refine hK _ _ ⟨by simp, fun _ h => h.elim⟩ ?_
  clear hK K
  repeat (first | (refine tree_skip rfl (by rfl) ?_; simp only [Act.put, List.setIfInBounds_toArray, List.set]) | (refine tree_quiet (v := ?_) rfl rfl (by rfl) ?_ ?_; rotate_left; (intro W hW; go_simp); (try with_reducible rfl); simp only [Act.put, List.setIfInBounds_toArray, List.set]))
  refine tree_loud rfl rfl (by rfl) (fun K hK => ?_); go_wp2_with fail
  have hb1 : Below w.heap.size w (w.alloc (.cells #[.pointer (some ⟨xb, i, none⟩), .pointer (some ⟨xb, i + 1, none⟩), .pointer (some ⟨xb, i + 2, none⟩)] 80)).drew := by (try unfold Kept); repeat (first | assumption | exact Below.refl _ _ | exact below_undrew (Below.refl _ _) | exact Below.mono (by assumption) (by first | (simp; done) | (simp; omega) | omega) | refine below_setRow ?_ (by first | (simp; done) | (simp; omega) | omega) _ | refine Below.setCell ?_ (by first | (simp; done) | (simp; omega) | omega) _ | refine Below.alloc ?_ (by first | (simp; done) | (simp; omega) | omega) _ | refine below_drewN ?_ _ | refine Below.drew ?_ | refine below_undrew ?_ | refine below_step ?_ (by assumption))
  have cb := nums_r _ B q w.heap.size 3 xb i cs _ (hq.old hb1 hB) (Nat.le_trans hB hb1.size) (Blk.new w #[.pointer (some ⟨xb, i, none⟩), .pointer (some ⟨xb, i + 1, none⟩), .pointer (some ⟨xb, i + 2, none⟩)] 80).drew (Nat.ne_of_gt hq.blk.lt) (Nat.ne_of_gt hx.lt) (hx.old hb1) hi3 hxB hxc (by omega)
  refine cb.mono ?_
  clear cb
  rintro e w2 ⟨h1, h2⟩
  by_cases hmore : q.at_ + 8 * 3 ≤ q.bs.length
  · obtain ⟨rfl, hg⟩ := h2 hmore
    have hz2 := hg.turn.size
    replace hg := hg.pre hb1
    have HS := Lib.hid (rdSide_lists q.bs q.at_ hmore)
    clear h1 h2
    go_wp2_with fail
    refine hK _ _ ⟨by simpa using hz2, fun _ h => h.elim⟩ ?_
    clear hK K
    refine tree_done ?_
    obtain ⟨C, hC⟩ : ∃ C, C = putRow cs i (numsV q.bs q.at_ 3) := ⟨_, rfl⟩
    rw [← hC] at hg
    have hsC : C.size = cs.size := by rw [hC, putRow_size]
    have hkC : ∀ j, i + 3 ≤ j → C[j]? = cs[j]? := fun j hj => by rw [hC]; exact putRow_other _ _ _ _ (.inr (by simpa using hj))
    go_upto_region 1 with (fail)
    refine wp_region_treeR false (KeepAt (fun _ => False)) (KeepAt.refl _) (fun _ _ _ h1 h2 => KeepAt.trans h1 h2) (.step 0 (.step 1 (.step 2 (.step 3 (.step 4 (.step 5 (.step 6 (.step 7 (.step 8 (.step 11 (.step 9 (.step 10 .done)))))))))))) (by kernel_rfl) (by kernel_rfl) (fun c a d v w h => by cases d <;> exact h) ?_
    repeat (first | (refine tree_skip rfl (by rfl) ?_; simp only [Act.put, List.setIfInBounds_toArray, List.set]) | (refine tree_quiet (v := ?_) rfl rfl (by rfl) ?_ ?_; rotate_left; (intro W hW; go_simp); (try with_reducible rfl); simp only [Act.put, List.setIfInBounds_toArray, List.set]))
    refine tree_loud rfl rfl (by rfl) (fun K hK => ?_); go_wp2_with fail
    refine hK _ _ ⟨by simp, fun _ h => h.elim⟩ ?_
    clear hK K
    repeat (first | (refine tree_skip rfl (by rfl) ?_; simp only [Act.put, List.setIfInBounds_toArray, List.set]) | (refine tree_quiet (v := ?_) rfl rfl (by rfl) ?_ ?_; rotate_left; (intro W hW; go_simp); (try with_reducible rfl); simp only [Act.put, List.setIfInBounds_toArray, List.set]))
    refine tree_done ?_
    go_upto_region 2 with (fail)
    obtain ⟨g, hgd⟩ : ∃ g, g = w2.heap.size := ⟨_, rfl⟩
    rw [← hgd]
    refine wp_forget (fun W => Blk W g ((List.range 3).map fun j => Value.pointer (some ⟨xb, i + (3 + j), none⟩)).toArray 86 ∧ Below w2.heap.size w2 W) ⟨by rw [hgd]; exact (Blk.new w2 _ _).drew, by (try unfold Kept); repeat (first | assumption | exact Below.refl _ _ | exact below_undrew (Below.refl _ _) | exact Below.mono (by assumption) (by first | (simp; done) | (simp; omega) | omega) | refine below_setRow ?_ (by first | (simp; done) | (simp; omega) | omega) _ | refine Below.setCell ?_ (by first | (simp; done) | (simp; omega) | omega) _ | refine Below.alloc ?_ (by first | (simp; done) | (simp; omega) | omega) _ | refine below_drewN ?_ _ | refine Below.drew ?_ | refine below_undrew ?_ | refine below_step ?_ (by assumption))⟩ ?_
    rintro W3 ⟨hg3, hb3⟩
    have hz2' := hg.turn.size
    have hgw : w.heap.size ≤ g := by omega
    clear hgd
    have hg0 : RGot B w q W3 (q.to (q.at_ + 8 * 3)) xb C t := ⟨hg.at'.old hb3 (Nat.le_trans hB hz2'), hg.turn.trans (Turn.of_below (F := fun x => x = q.c ∨ x = xb) hb3) (fun _ hk => .inl hk), hg.blk.old hb3⟩
    have hst : SideR w B q xb i C t (rdMany (rdInts q.bs) 3 (q.at_ + 8 * 3)) 3 (.int .i64 0) W3 := by
      refine ⟨0, [], [], q.at_ + 8 * 3, rfl, rfl, rfl, ⟨rfl, fun j h1 => by simp at h1⟩, hg0, ?_⟩
      rw [Nat.sub_zero]
      cases rdMany (rdInts q.bs) 3 (q.at_ + 8 * 3) with
      | error p => rfl
      | ok v => rfl
    have hgl := hg3.lt
    have hW3z := hg0.turn.size
    go_loopg [29] 3 (fun f v wr => SideR w B q xb i C t (rdMany (rdInts q.bs) 3 (q.at_ + 8 * 3)) f v wr ∧ Turn (fun x => x = q.c ∨ x = xb) W3 wr)
    case atStart => exact ⟨hst, Turn.refl _ _⟩
    case round =>
      clear hst hg0
      obtain ⟨⟨k, hs, ls, a, hk, rfl, hhl, hall, hgr, hR⟩, htW⟩ := hrel
      have HRR := Lib.hid hR
      clear hR
      by_cases hlt : k < 3
      · have t0 : decide ((k : Int) < 3) = true := by simp; omega
        have hgr3 : Blk wr g _ _ := (htW.block g hgl (fun h => by have := hF g h; omega)).trans hg3
        have cg : wr.cell? ⟨g, k, none⟩ = some (.pointer (some ⟨xb, i + (3 + k), none⟩)) := by rw [hgr3.rule]; simp [hlt]
        obtain ⟨s0, hs0⟩ := hil k hlt
        have hv2 : (putRow C (i + 3) (rowsV hs))[i + (3 + k)]? = some (.slice s0.a s0.n s0.c) := by rw [putRow_other _ _ _ _ (.inr (by simp [rowsV, hhl]; omega)), hkC _ (by omega)]; exact hs0
        have hzr := hgr.turn.size
        have cb := list_int_r wr B (q.to a) xb (i + (3 + k)) _ t s0 hgr.at' (Nat.le_trans hB hzr) hgr.blk hv2 hxB hxc
        have hcc : (q.to a).c = q.c := rfl
        rw [hcc] at cb
        clear hgr3 hv2 hs0
        go_wp2_with fail
        refine cb.mono ?_
        clear cb
        rintro e w6 hres
        obtain ⟨m, hm⟩ : ∃ m, 3 - k = m + 1 := ⟨3 - k - 1, by omega⟩
        have hR2 := HRR.out
        rw [hm] at hR2
        cases hone : rdInts q.bs a with
        | error p =>
          obtain ⟨rfl, hbE⟩ := hres.err hone
          have HR3 := Lib.hid (show rdSide q.bs q.at_ = .error p by
            rw [HS.out, hR2]
            simp only [rdMany, hone])
          have hbB : RBad w q w6 xb t := RBad.after hgr hx (by rw [putRow_size, hsC]) hbE rfl
          clear hres hR2 hone
          go_wp2_with fail
          refine ⟨rfl, ?_⟩
          rw [HR3.out]
          exact ⟨rfl, hbB⟩
        | ok va =>
          obtain ⟨v, a'⟩ := va
          obtain ⟨rfl, s, ho, hg6⟩ := hres.ok hone
          have ho' : OwnInts w6 w.heap.size s v := ho.lower hzr
          have hall6 : OwnAll w6 w.heap.size (hs ++ [s]) (ls ++ [v]) := (hall.turn hg6.turn hF).snoc ho'
          have hgr6 : RGot B w q w6 (q.to a') xb (putRow C (i + 3) (rowsV (hs ++ [s]))) t := by
            have e1 : putRow C (i + 3) (rowsV (hs ++ [s])) = (putRow C (i + 3) (rowsV hs)).setIfInBounds (i + (3 + k)) (slV s) := by
              unfold rowsV
              rw [List.map_append, putRow_append, List.length_map, hhl, Nat.add_assoc]
              rfl
            rw [e1]
            exact hgr.chain (q'' := q.to a') hg6 rfl
          have htW6 := htW.trans hg6.turn fun x hx => .inl hx
          have HR3 := Lib.hid (show rdMany (rdInts q.bs) 3 (q.at_ + 8 * 3) = (match rdMany (rdInts q.bs) (3 - (k + 1)) a' with
            | .error p => .error p
            | .ok (m, b) => .ok ((ls ++ [v]) ++ m, b)) by
            rw [hR2, show 3 - (k + 1) = m by omega]
            simp only [rdMany, hone]
            cases rdMany (rdInts q.bs) m a' with
            | error p => rfl
            | ok y => simp)
          clear hres hR2 hone hg6 ho ho' hall hgr htW
          go_wp2_with fail
          go_roundg (gk - 1)
          case measure => omega
          case rel => exact ⟨⟨k + 1, hs ++ [s], ls ++ [v], a', by omega, by go_num, by simp [hhl], hall6, hgr6, HR3.out⟩, htW6⟩
      · have hk3 : k = 3 := by omega
        subst hk3
        have hl3 := hall.1
        match hs, ls, hhl, hl3, hall, hgr, HRR with
        | [u1, u2, u3], [l1, l2, l3], _, _, hall, hgr, HRR =>
          have o1 := hall.2 0 (by simp) (by simp)
          have o2 := hall.2 1 (by simp) (by simp)
          have o3 := hall.2 2 (by simp) (by simp)
          have HS2 := Lib.hid (show rdSide q.bs q.at_ = thn (rdThings q.bs a) fun units b => thn (rdInts q.bs b) fun told b => .ok (⟨numAt q.bs q.at_, numAt q.bs (q.at_ + 8), numAt q.bs (q.at_ + 16), l1, l2, l3, units, told⟩, b) by
            rw [HS.out, HRR.out]
            rfl)
          obtain ⟨D, hD⟩ : ∃ D, D = putRow C (i + 3) (rowsV [u1, u2, u3]) := ⟨_, rfl⟩
          rw [← hD] at hgr
          have hsD : D.size = cs.size := by rw [hD, putRow_size, hsC]
          have hkD : ∀ j, i + 6 ≤ j → D[j]? = cs[j]? := fun j hj => by
            rw [hD, putRow_other _ _ _ _ (.inr (by simp [rowsV]; omega))]
            exact hkC j (by omega)
          have hzr := hgr.turn.size
          have cb := list_thing_r wr B (q.to a) xb (i + 6) D t h0.units hgr.at' (Nat.le_trans hB hzr) hgr.blk ((hkD _ (by omega)).trans hi6) hxB hxc
          have hcc : (q.to a).c = q.c := rfl
          rw [hcc] at cb
          clear hall htW hg3
          go_wp2_with fail
          refine cb.mono ?_
          clear cb
          rintro e w7 hres
          cases hone : rdThings q.bs a with
          | error p =>
            obtain ⟨rfl, hbE⟩ := hres.err hone
            have HR3 := Lib.hid (show rdSide q.bs q.at_ = .error p by
              rw [HS2.out, hone]
              rfl)
            have hbB : RBad w q w7 xb t := RBad.after hgr hx hsD hbE rfl
            clear hres hone
            go_wp2_with fail
            refine ⟨rfl, ?_⟩
            rw [HR3.out]
            exact ⟨rfl, hbB⟩
          | ok va =>
            obtain ⟨v, a'⟩ := va
            obtain ⟨rfl, s, ho, hg7⟩ := hres.ok hone
            rw [hone] at HS2
            have o4 : OwnThings w7 w.heap.size s v := ho.lower hzr
            replace o1 := o1.turn hg7.turn hF
            replace o2 := o2.turn hg7.turn hF
            replace o3 := o3.turn hg7.turn hF
            have hgr7 : RGot B w q w7 (q.to a') xb (D.setIfInBounds (i + 6) (slV s)) t := hgr.chain (q'' := q.to a') hg7 rfl
            have hv3 : (D.setIfInBounds (i + 6) (slV s))[i + 7]? = some (.slice h0.told.a h0.told.n h0.told.c) := (set_ne (by omega)).trans ((hkD _ (by omega)).trans hi7)
            have hz7 := hgr7.turn.size
            have cb := list_int_r w7 B (q.to a') xb (i + 7) _ t h0.told hgr7.at' (Nat.le_trans hB hz7) hgr7.blk hv3 hxB hxc
            have hcc : (q.to a').c = q.c := rfl
            rw [hcc] at cb
            clear hg7 hres hone ho
            go_wp2_with fail
            refine cb.mono ?_
            clear cb
            rintro e w8 hres
            cases hone : rdInts q.bs a' with
            | error p =>
              obtain ⟨rfl, hbE⟩ := hres.err hone
              have HR3 := Lib.hid (show rdSide q.bs q.at_ = .error p by
                rw [HS2.out]
                dsimp only [thn]
                rw [hone])
              have hbB : RBad w q w8 xb t := RBad.after hgr7 hx (by rw [Array.size_setIfInBounds, hsD]) hbE rfl
              clear hres hone
              go_wp2_with fail
              refine ⟨rfl, ?_⟩
              rw [HR3.out]
              exact ⟨rfl, hbB⟩
            | ok va =>
              obtain ⟨v2, a2⟩ := va
              obtain ⟨rfl, s2, ho, hg8⟩ := hres.ok hone
              have HR3 := Lib.hid (show rdSide q.bs q.at_ = .ok (⟨numAt q.bs q.at_, numAt q.bs (q.at_ + 8), numAt q.bs (q.at_ + 16), l1, l2, l3, v, v2⟩, a2) by
                rw [HS2.out]
                dsimp only [thn]
                rw [hone])
              have o5 : OwnInts w8 w.heap.size s2 v2 := ho.lower hz7
              replace o1 := o1.turn hg8.turn hF
              replace o2 := o2.turn hg8.turn hF
              replace o3 := o3.turn hg8.turn hF
              replace o4 := o4.turn hg8.turn hF
              have hgr8 := hgr7.chain (q'' := q.to a2) hg8 rfl
              clear hres hone hg8
              go_wp2_with fail
              refine bodyPost_end (v := .tuple #[]) (results_none rfl _ _ _) rfl ?_
              rw [HR3.out]
              refine ⟨rfl, ⟨u1, u2, u3, s, s2⟩, ⟨wf64_numAt _ _, wf64_numAt _ _, wf64_numAt _ _, o1, o2, o3, o4, o5⟩, ?_⟩
              have e1 : putRow cs i (sideCells ⟨numAt q.bs q.at_, numAt q.bs (q.at_ + 8), numAt q.bs (q.at_ + 16), l1, l2, l3, v, v2⟩ ⟨u1, u2, u3, s, s2⟩) = (D.setIfInBounds (i + 6) (slV s)).setIfInBounds (i + 7) (.slice s2.a s2.n s2.c) := by
                rw [hD, hC]
                rfl
              dsimp only
              rw [e1]
              exact hgr8
  · obtain ⟨rfl, hb2⟩ := h1 (by omega)
    have HR := Lib.hid (show rdSide q.bs q.at_ = .error q.bs.length by unfold rdSide; exact rd3_err q.bs q.at_ _ (by omega))
    have hb3 := RBad.pre hb1 hb2
    clear h1 h2 hK
    go_wp2_with fail
    refine ⟨rfl, ?_⟩
    rw [HR.out]
    exact ⟨rfl, hb3⟩
theorem numsV2 (bs : List UInt8) (a : Nat) : numsV bs a 2 = [.int .i64 (numAt bs a), .int .i64 (numAt bs (a + 8))] := rfl
theorem numsV3 (bs : List UInt8) (a : Nat) : numsV bs a 3 = [.int .i64 (numAt bs a), .int .i64 (numAt bs (a + 8)), .int .i64 (numAt bs (a + 16))] := rfl
theorem sideCells_len (p : SideP) (h : SideH) : (sideCells p h).length = 8 := rfl
theorem state_cells_put (cs : Array Value) (hs : cs.size = 23) (p : StateP) (h : StateH) :
    (stateCells p h).toArray = putRow (putRow (putRow cs 0 [.int .i64 p.turn, .int .i64 p.mover, .int .i8 p.phase, .bool p.struck, .int .i8 p.result, .slice h.attack.a h.attack.n h.attack.c, .int .i64 p.next]) 7 (sideCells p.x h.x)) 15 (sideCells p.y h.y) := by
  have hl : (stateCells p h).length = 23 := rfl
  rw [← putRow_all (cs := cs) (by rw [hs, hl])]
  unfold stateCells
  rw [putRow_append, putRow_append, List.length_append, sideCells_len]
  simp only [List.length_cons, List.length_nil, Nat.zero_add, Nat.reduceAdd]
structure StateOwnR (w : World) (B : Nat) (p : StateP) (h : StateH) : Prop where
  own : StateOwn w B p h
theorem wf8_rdSmall {bs : List UInt8} {a : Nat} {n : Int} {b : Nat} (h : rdSmall bs a = .ok (n, b)) : wf8 n := by
  unfold rdSmall at h
  cases hn : rdNum bs a with
  | error p => rw [hn] at h; cases h
  | ok v =>
    rw [hn] at h
    dsimp only at h
    split at h
    · cases h
    · rename_i ho
      cases h
      simp only [wf8, Lit.wf, IntKind.min, IntKind.max, IntKind.signed, IntKind.bits]
      simp
      omega
set_option maxHeartbeats 8000000 in
theorem state_r (w : World) (B : Nat) (q : RC) (xb : Nat) (cs : Array Value) (t : TypeId) (p0 : StateP) (h0 : StateH) (hq : RAt w B q) (hB : B ≤ w.heap.size) (hx : Blk w xb cs t) (hcs : cs = (stateCells p0 h0).toArray) (hxB : B ≤ xb) (hxc : xb ≠ q.c) :
    Calls Try.prog 22 #[.pointer (some ⟨q.c, 0, none⟩), .pointer (some ⟨xb, 0, none⟩)] w (ORes B w q (rdState q.bs q.at_) (fun W => StateOwn W w.heap.size) (fun p h => (stateCells p h).toArray) xb t) := by
  have hmf : ∀ (fn : Fn) (first cap : Array Value) (w : World), (Instr.makeFunc fn first cap).run Try.prog w = .ok (.func fn first cap) w := fun _ _ _ _ => rfl
  have hi3 : ∀ j, j < 2 → ∃ v, cs[0 + j]? = some (.int .i64 v) := fun j hj => by
    rw [hcs]
    rcases (show j = 0 ∨ j = 1 by omega) with rfl | rfl
    · exact ⟨p0.turn, rfl⟩
    · exact ⟨p0.mover, rfl⟩
  have i2 : cs[2]? = some (.int .i8 p0.phase) := by rw [hcs]; rfl
  have i3 : cs[3]? = some (.bool p0.struck) := by rw [hcs]; rfl
  have i4 : cs[4]? = some (.int .i8 p0.result) := by rw [hcs]; rfl
  have i5 : cs[5]? = some (.slice h0.attack.a h0.attack.n h0.attack.c) := by rw [hcs]; rfl
  have i6 : cs[6]? = some (.int .i64 p0.next) := by rw [hcs]; rfl
  have i7 : HasRow cs 7 (sideCells p0.x h0.x) := fun j hj => by
    rw [hcs]
    have : j < 8 := hj
    rcases (show j = 0 ∨ j = 1 ∨ j = 2 ∨ j = 3 ∨ j = 4 ∨ j = 5 ∨ j = 6 ∨ j = 7 by omega) with rfl | rfl | rfl | rfl | rfl | rfl | rfl | rfl <;> rfl
  have i15 : HasRow cs 15 (sideCells p0.y h0.y) := fun j hj => by
    rw [hcs]
    have : j < 8 := hj
    rcases (show j = 0 ∨ j = 1 ∨ j = 2 ∨ j = 3 ∨ j = 4 ∨ j = 5 ∨ j = 6 ∨ j = 7 by omega) with rfl | rfl | rfl | rfl | rfl | rfl | rfl | rfl <;> rfl
  have hsz : cs.size = 23 := by rw [hcs]; rfl
  have hxcl := hq.blk.lt
  have hxl := hx.lt
  have hF : ∀ x, (x = q.c ∨ x = xb) → x < w.heap.size := fun x hx => by rcases hx with rfl | rfl <;> assumption
  clear hcs
  go_enter Try.func22, Try.ntmps22
  go_wp2_with fail
  refine wp_region_treeR false (KeepAt (fun _ => False)) (KeepAt.refl _) (fun _ _ _ h1 h2 => KeepAt.trans h1 h2) (.step 0 (.step 1 (.step 2 (.step 3 (.step 4 (.step 5 (.step 6 (.step 7 (.step 8 .done))))))))) (by kernel_rfl) (by kernel_rfl) (fun c a d v w h => by cases d <;> exact h) ?_
  repeat (first | (refine tree_skip rfl (by rfl) ?_; simp only [Act.put, List.setIfInBounds_toArray, List.set]) | (refine tree_quiet (v := ?_) rfl rfl (by rfl) ?_ ?_; rotate_left; (intro W hW; go_simp); (try with_reducible rfl); simp only [Act.put, List.setIfInBounds_toArray, List.set]))
  refine tree_loud rfl rfl (by rfl) (fun K hK => ?_); go_wp2_with fail
  refine hK _ _ ⟨by simp, fun _ h => h.elim⟩ ?_
  clear hK K
  repeat (first | (refine tree_skip rfl (by rfl) ?_; simp only [Act.put, List.setIfInBounds_toArray, List.set]) | (refine tree_quiet (v := ?_) rfl rfl (by rfl) ?_ ?_; rotate_left; (intro W hW; go_simp); (try with_reducible rfl); simp only [Act.put, List.setIfInBounds_toArray, List.set]))
  refine tree_loud rfl rfl (by rfl) (fun K hK => ?_); go_wp2_with fail
  have hb1 : Below w.heap.size w (w.alloc (.cells #[.pointer (some ⟨xb, 0, none⟩), .pointer (some ⟨xb, 1, none⟩)] 80)).drew := by (try unfold Kept); repeat (first | assumption | exact Below.refl _ _ | exact below_undrew (Below.refl _ _) | exact Below.mono (by assumption) (by first | (simp; done) | (simp; omega) | omega) | refine below_setRow ?_ (by first | (simp; done) | (simp; omega) | omega) _ | refine Below.setCell ?_ (by first | (simp; done) | (simp; omega) | omega) _ | refine Below.alloc ?_ (by first | (simp; done) | (simp; omega) | omega) _ | refine below_drewN ?_ _ | refine Below.drew ?_ | refine below_undrew ?_ | refine below_step ?_ (by assumption))
  have cb := nums_r _ B q w.heap.size 2 xb 0 cs _ (hq.old hb1 hB) (Nat.le_trans hB hb1.size) (Blk.new w #[.pointer (some ⟨xb, 0, none⟩), .pointer (some ⟨xb, 1, none⟩)] 80).drew (Nat.ne_of_gt hq.blk.lt) (Nat.ne_of_gt hx.lt) (hx.old hb1) hi3 hxB hxc (by omega)
  refine cb.mono ?_
  clear cb
  rintro e w2 ⟨h1, h2⟩
  rcases Nat.lt_or_ge q.bs.length (q.at_ + 8 * 2) with hless | hmore
  · obtain ⟨rfl, hb2⟩ := h1 hless
    have HR := Lib.hid (show rdState q.bs q.at_ = .error q.bs.length by unfold rdState; exact rd2_err q.bs q.at_ _ (by omega))
    have hb3 := RBad.pre hb1 hb2
    clear h1 h2 hK
    go_wp2_with fail
    refine ⟨rfl, ?_⟩
    rw [HR.out]
    exact ⟨rfl, hb3⟩
  obtain ⟨rfl, hg2⟩ := h2 hmore
  have hz2 := hg2.turn.size
  replace hg2 := hg2.pre hb1
  have HW := Lib.hid (show rdState q.bs q.at_ = thn (rdSmall q.bs (q.at_ + 8 * 2)) fun phase a => thn (rdTruth q.bs a) fun struck a => thn (rdSmall q.bs a) fun result a => thn (rdInts q.bs a) fun attack a => thn (rdNum q.bs a) fun next a => thn (rdSide q.bs a) fun x a => thn (rdSide q.bs a) fun y a => .ok ((⟨numAt q.bs q.at_, numAt q.bs (q.at_ + 8), phase, struck, result, attack, next, x, y⟩ : StateP), a) by
    unfold rdState
    exact rd2_ok q.bs q.at_ (fun turn mover a => thn (rdSmall q.bs a) fun phase a => thn (rdTruth q.bs a) fun struck a => thn (rdSmall q.bs a) fun result a => thn (rdInts q.bs a) fun attack a => thn (rdNum q.bs a) fun next a => thn (rdSide q.bs a) fun x a => thn (rdSide q.bs a) fun y a => .ok ((⟨turn, mover, phase, struck, result, attack, next, x, y⟩ : StateP), a)) hmore)
  clear h1 h2
  go_wp2_with fail
  refine hK _ _ ⟨by simpa using hz2, fun _ h => h.elim⟩ ?_
  clear hK K
  refine tree_done ?_
  obtain ⟨C2, hC2⟩ : ∃ C, C = putRow cs 0 (numsV q.bs q.at_ 2) := ⟨_, rfl⟩
  rw [← hC2] at hg2
  have hs2 : C2.size = cs.size := by rw [hC2, putRow_size]
  have hk2 : ∀ j, 2 ≤ j → C2[j]? = cs[j]? := fun j hj => by rw [hC2]; exact putRow_other _ _ _ _ (.inr (by simpa using hj))
  obtain ⟨a2, ha2⟩ : ∃ a, a = q.at_ + 8 * 2 := ⟨_, rfl⟩
  rw [← ha2] at hg2 HW
  have cb := small_r w2 B (q.to a2) xb 2 C2 t p0.phase hg2.at' (Nat.le_trans hB hg2.turn.size) hg2.blk ((hk2 _ (by omega)).trans i2) hxB hxc
  have hcc : (q.to a2).c = q.c := rfl
  rw [hcc] at cb
  go_wp2_with fail
  refine cb.mono ?_
  clear cb
  rintro e w3 hres
  rcases hE3 : rdSmall q.bs a2 with p | ⟨v3, a3⟩
  · obtain ⟨rfl, hbE⟩ := hres.err hE3
    have HR := Lib.hid (show rdState q.bs q.at_ = .error p by
      rw [HW.out, hE3]
      rfl)
    have hbB : RBad w q w3 xb t := RBad.after hg2 hx hs2 hbE rfl
    clear hres
    go_wp2_with fail
    refine ⟨rfl, ?_⟩
    rw [HR.out]
    exact ⟨rfl, hbB⟩
  obtain ⟨rfl, hr⟩ := hres.ok hE3
  rw [hE3, thn_ok] at HW
  replace hr := hg2.chain (q'' := q.to a3) hr rfl
  obtain ⟨C3, hC3⟩ : ∃ C : Array Value, C = C2.setIfInBounds 2 (.int .i8 v3) := ⟨_, rfl⟩
  have hg3 : RGot B w q w3 (q.to a3) xb C3 t := by rw [hC3]; exact hr
  have hk3 : ∀ j, 2 + 1 ≤ j → C3[j]? = cs[j]? := fun j hj => by
    rw [hC3]
    exact (set_ne (by omega)).trans (hk2 j (by omega))
  have hs3 : C3.size = cs.size := by rw [hC3]; simp only [Array.size_setIfInBounds, putRow_size] <;> exact hs2
  have wf3 := wf8_rdSmall hE3
  clear hr hres hE3
  have cb := truth_r w3 B (q.to a3) xb 3 C3 t p0.struck hg3.at' (Nat.le_trans hB hg3.turn.size) hg3.blk ((hk3 _ (by omega)).trans i3) hxB hxc
  have hcc : (q.to a3).c = q.c := rfl
  rw [hcc] at cb
  go_wp2_with fail
  refine cb.mono ?_
  clear cb
  rintro e w4 hres
  rcases hE4 : rdTruth q.bs a3 with p | ⟨v4, a4⟩
  · obtain ⟨rfl, hbE⟩ := hres.err hE4
    have HR := Lib.hid (show rdState q.bs q.at_ = .error p by
      rw [HW.out, hE4]
      rfl)
    have hbB : RBad w q w4 xb t := RBad.after hg3 hx hs3 hbE rfl
    clear hres
    go_wp2_with fail
    refine ⟨rfl, ?_⟩
    rw [HR.out]
    exact ⟨rfl, hbB⟩
  obtain ⟨rfl, hr⟩ := hres.ok hE4
  rw [hE4, thn_ok] at HW
  replace hr := hg3.chain (q'' := q.to a4) hr rfl
  obtain ⟨C4, hC4⟩ : ∃ C : Array Value, C = C3.setIfInBounds 3 (.bool v4) := ⟨_, rfl⟩
  have hg4 : RGot B w q w4 (q.to a4) xb C4 t := by rw [hC4]; exact hr
  have hk4 : ∀ j, 3 + 1 ≤ j → C4[j]? = cs[j]? := fun j hj => by
    rw [hC4]
    exact (set_ne (by omega)).trans (hk3 j (by omega))
  have hs4 : C4.size = cs.size := by rw [hC4]; simp only [Array.size_setIfInBounds, putRow_size] <;> exact hs3
  clear hr hres hE4
  have cb := small_r w4 B (q.to a4) xb 4 C4 t p0.result hg4.at' (Nat.le_trans hB hg4.turn.size) hg4.blk ((hk4 _ (by omega)).trans i4) hxB hxc
  have hcc : (q.to a4).c = q.c := rfl
  rw [hcc] at cb
  go_wp2_with fail
  refine cb.mono ?_
  clear cb
  rintro e w5 hres
  rcases hE5 : rdSmall q.bs a4 with p | ⟨v5, a5⟩
  · obtain ⟨rfl, hbE⟩ := hres.err hE5
    have HR := Lib.hid (show rdState q.bs q.at_ = .error p by
      rw [HW.out, hE5]
      rfl)
    have hbB : RBad w q w5 xb t := RBad.after hg4 hx hs4 hbE rfl
    clear hres
    go_wp2_with fail
    refine ⟨rfl, ?_⟩
    rw [HR.out]
    exact ⟨rfl, hbB⟩
  obtain ⟨rfl, hr⟩ := hres.ok hE5
  rw [hE5, thn_ok] at HW
  replace hr := hg4.chain (q'' := q.to a5) hr rfl
  obtain ⟨C5, hC5⟩ : ∃ C : Array Value, C = C4.setIfInBounds 4 (.int .i8 v5) := ⟨_, rfl⟩
  have hg5 : RGot B w q w5 (q.to a5) xb C5 t := by rw [hC5]; exact hr
  have hk5 : ∀ j, 4 + 1 ≤ j → C5[j]? = cs[j]? := fun j hj => by
    rw [hC5]
    exact (set_ne (by omega)).trans (hk4 j (by omega))
  have hs5 : C5.size = cs.size := by rw [hC5]; simp only [Array.size_setIfInBounds, putRow_size] <;> exact hs4
  have wf5 := wf8_rdSmall hE5
  clear hr hres hE5
  have cb := list_int_r w5 B (q.to a5) xb 5 C5 t h0.attack hg5.at' (Nat.le_trans hB hg5.turn.size) hg5.blk ((hk5 _ (by omega)).trans i5) hxB hxc
  have hcc : (q.to a5).c = q.c := rfl
  rw [hcc] at cb
  go_wp2_with fail
  refine cb.mono ?_
  clear cb
  rintro e w6 hres
  rcases hE6 : rdInts q.bs a5 with p | ⟨v6, a6⟩
  · obtain ⟨rfl, hbE⟩ := hres.err hE6
    have HR := Lib.hid (show rdState q.bs q.at_ = .error p by
      rw [HW.out, hE6]
      rfl)
    have hbB : RBad w q w6 xb t := RBad.after hg5 hx hs5 hbE rfl
    clear hres
    go_wp2_with fail
    refine ⟨rfl, ?_⟩
    rw [HR.out]
    exact ⟨rfl, hbB⟩
  obtain ⟨rfl, s6, ho6, hr⟩ := hres.ok hE6
  rw [hE6, thn_ok] at HW
  have hp6 : OwnInts w6 w.heap.size s6 v6 := ho6.lower hg5.turn.size
  clear ho6
  replace hr := hg5.chain (q'' := q.to a6) hr rfl
  obtain ⟨C6, hC6⟩ : ∃ C : Array Value, C = C5.setIfInBounds 5 (.slice s6.a s6.n s6.c) := ⟨_, rfl⟩
  have hg6 : RGot B w q w6 (q.to a6) xb C6 t := by rw [hC6]; exact hr
  have hk6 : ∀ j, 5 + 1 ≤ j → C6[j]? = cs[j]? := fun j hj => by
    rw [hC6]
    exact (set_ne (by omega)).trans (hk5 j (by omega))
  have hs6 : C6.size = cs.size := by rw [hC6]; simp only [Array.size_setIfInBounds, putRow_size] <;> exact hs5
  clear hr hres hE6
  have cb := num_rr w6 B (q.to a6) xb 6 C6 t p0.next hg6.at' (Nat.le_trans hB hg6.turn.size) hg6.blk (fun j hj => by have : j < 1 := hj; obtain rfl : j = 0 := (by omega); exact (hk6 6 (by omega)).trans i6) hxB hxc
  have hcc : (q.to a6).c = q.c := rfl
  rw [hcc] at cb
  go_wp2_with fail
  refine cb.mono ?_
  clear cb
  rintro e w7 hres
  rcases hE7 : rdNum q.bs a6 with p | ⟨v7, a7⟩
  · obtain ⟨rfl, hbE⟩ := hres.err hE7
    have HR := Lib.hid (show rdState q.bs q.at_ = .error p by
      rw [HW.out, hE7]
      rfl)
    have hbB : RBad w q w7 xb t := RBad.after hg6 hx hs6 hbE rfl
    clear hres
    go_wp2_with fail
    refine ⟨rfl, ?_⟩
    rw [HR.out]
    exact ⟨rfl, hbB⟩
  obtain ⟨rfl, hr⟩ := hres.ok hE7
  rw [hE7, thn_ok] at HW
  replace hp6 := hp6.turn hr.turn hF
  replace hr := hg6.chain (q'' := q.to a7) hr rfl
  obtain ⟨C7, hC7⟩ : ∃ C : Array Value, C = putRow C6 6 (bi v7) := ⟨_, rfl⟩
  have hg7 : RGot B w q w7 (q.to a7) xb C7 t := by rw [hC7]; exact hr
  have hk7 : ∀ j, 6 + 1 ≤ j → C7[j]? = cs[j]? := fun j hj => by
    rw [hC7]
    exact (putRow_other _ _ _ _ (.inr (by simp [bi]; omega))).trans (hk6 j (by omega))
  have hs7 : C7.size = cs.size := by rw [hC7]; simp only [Array.size_setIfInBounds, putRow_size] <;> exact hs6
  have wf7 := rdNum_wf hE7
  clear hr hres hE7
  have cb := side_r w7 B (q.to a7) xb 7 C7 t p0.x h0.x hg7.at' (Nat.le_trans hB hg7.turn.size) hg7.blk (fun j hj => (hk7 _ (by omega)).trans (i7 j hj)) hxB hxc
  have hcc : (q.to a7).c = q.c := rfl
  rw [hcc] at cb
  go_wp2_with fail
  refine cb.mono ?_
  clear cb
  rintro e w8 hres
  rcases hE8 : rdSide q.bs a7 with p | ⟨v8, a8⟩
  · obtain ⟨rfl, hbE⟩ := hres.err hE8
    have HR := Lib.hid (show rdState q.bs q.at_ = .error p by
      rw [HW.out, hE8]
      rfl)
    have hbB : RBad w q w8 xb t := RBad.after hg7 hx hs7 hbE rfl
    clear hres
    go_wp2_with fail
    refine ⟨rfl, ?_⟩
    rw [HR.out]
    exact ⟨rfl, hbB⟩
  obtain ⟨rfl, s8, ho8, hr⟩ := hres.ok hE8
  rw [hE8, thn_ok] at HW
  have hp8 : SideOwn w8 w.heap.size v8 s8 := ho8.lower hg7.turn.size
  clear ho8
  replace hp6 := hp6.turn hr.turn hF
  replace hr := hg7.chain (q'' := q.to a8) hr rfl
  obtain ⟨C8, hC8⟩ : ∃ C : Array Value, C = putRow C7 7 (sideCells v8 s8) := ⟨_, rfl⟩
  have hg8 : RGot B w q w8 (q.to a8) xb C8 t := by rw [hC8]; exact hr
  have hk8 : ∀ j, 7 + 8 ≤ j → C8[j]? = cs[j]? := fun j hj => by
    rw [hC8]
    exact (putRow_other _ _ _ _ (.inr (by simp [sideCells]; omega))).trans (hk7 j (by omega))
  have hs8 : C8.size = cs.size := by rw [hC8]; simp only [Array.size_setIfInBounds, putRow_size] <;> exact hs7
  clear hr hres hE8
  have cb := side_r w8 B (q.to a8) xb 15 C8 t p0.y h0.y hg8.at' (Nat.le_trans hB hg8.turn.size) hg8.blk (fun j hj => (hk8 _ (by omega)).trans (i15 j hj)) hxB hxc
  have hcc : (q.to a8).c = q.c := rfl
  rw [hcc] at cb
  go_wp2_with fail
  refine cb.mono ?_
  clear cb
  rintro e w9 hres
  rcases hE9 : rdSide q.bs a8 with p | ⟨v9, a9⟩
  · obtain ⟨rfl, hbE⟩ := hres.err hE9
    have HR := Lib.hid (show rdState q.bs q.at_ = .error p by
      rw [HW.out, hE9]
      rfl)
    have hbB : RBad w q w9 xb t := RBad.after hg8 hx hs8 hbE rfl
    clear hres
    go_wp2_with fail
    refine ⟨rfl, ?_⟩
    rw [HR.out]
    exact ⟨rfl, hbB⟩
  obtain ⟨rfl, s9, ho9, hr⟩ := hres.ok hE9
  rw [hE9, thn_ok] at HW
  have hp9 : SideOwn w9 w.heap.size v9 s9 := ho9.lower hg8.turn.size
  clear ho9
  replace hp6 := hp6.turn hr.turn hF
  replace hp8 := hp8.turn hr.turn hF
  replace hr := hg8.chain (q'' := q.to a9) hr rfl
  obtain ⟨C9, hC9⟩ : ∃ C : Array Value, C = putRow C8 15 (sideCells v9 s9) := ⟨_, rfl⟩
  have hg9 : RGot B w q w9 (q.to a9) xb C9 t := by rw [hC9]; exact hr
  have hk9 : ∀ j, 15 + 8 ≤ j → C9[j]? = cs[j]? := fun j hj => by
    rw [hC9]
    exact (putRow_other _ _ _ _ (.inr (by simp [sideCells]; omega))).trans (hk8 j (by omega))
  have hs9 : C9.size = cs.size := by rw [hC9]; simp only [Array.size_setIfInBounds, putRow_size] <;> exact hs8
  clear hr hres hE9
  go_wp2_with fail
  refine bodyPost_end (v := .tuple #[]) (results_none rfl _ _ _) rfl ?_
  rw [HW.out]
  refine ⟨rfl, ⟨s6, s8, s9⟩, ⟨wf64_numAt _ _, wf64_numAt _ _, wf3, wf5, hp6, wf7, hp8, hp9⟩, ?_⟩
  have e1 : (stateCells ⟨numAt q.bs q.at_, numAt q.bs (q.at_ + 8), v3, v4, v5, v6, v7, v8, v9⟩ ⟨s6, s8, s9⟩).toArray = C9 := by
    have f1 : putRow cs 0 [.int .i64 (numAt q.bs q.at_), .int .i64 (numAt q.bs (q.at_ + 8)), .int .i8 v3, .bool v4, .int .i8 v5, .slice s6.a s6.n s6.c, .int .i64 v7] = C7 := by
      rw [hC7, hC6, hC5, hC4, hC3, hC2, numsV2]
      simp only [putRow, bi, Nat.zero_add, Nat.reduceAdd]
    rw [state_cells_put cs hsz]
    dsimp only
    rw [f1, hC9, hC8]
  dsimp only
  rw [e1]
  exact hg9
set_option maxHeartbeats 8000000 in
theorem action_r (w : World) (B : Nat) (q : RC) (xb : Nat) (cs : Array Value) (t : TypeId) (p0 : ActionP) (h0 : ActionH) (hq : RAt w B q) (hB : B ≤ w.heap.size) (hx : Blk w xb cs t) (hcs : cs = (actionCells p0 h0).toArray) (hxB : B ≤ xb) (hxc : xb ≠ q.c) :
    Calls Try.prog 33 #[.pointer (some ⟨q.c, 0, none⟩), .pointer (some ⟨xb, 0, none⟩)] w (ORes B w q (rdAction q.bs q.at_) (fun W => ActionOwn W w.heap.size) (fun p h => (actionCells p h).toArray) xb t) := by
  have hmf : ∀ (fn : Fn) (first cap : Array Value) (w : World), (Instr.makeFunc fn first cap).run Try.prog w = .ok (.func fn first cap) w := fun _ _ _ _ => rfl
  have hi3 : ∀ j, j < 3 → ∃ v, cs[1 + j]? = some (.int .i64 v) := fun j hj => by
    rw [hcs]
    rcases (show j = 0 ∨ j = 1 ∨ j = 2 by omega) with rfl | rfl | rfl
    · exact ⟨p0.side, rfl⟩
    · exact ⟨p0.place, rfl⟩
    · exact ⟨p0.target, rfl⟩
  have i0 : cs[0]? = some (.int .i8 p0.op) := by rw [hcs]; rfl
  have i4 : cs[4]? = some (.slice h0.ids.a h0.ids.n h0.ids.c) := by rw [hcs]; rfl
  have i5 : cs[5]? = some (.slice h0.pairs.a h0.pairs.n h0.pairs.c) := by rw [hcs]; rfl
  have hsz : cs.size = 6 := by rw [hcs]; rfl
  have hxcl := hq.blk.lt
  have hxl := hx.lt
  have hF : ∀ x, (x = q.c ∨ x = xb) → x < w.heap.size := fun x hx => by rcases hx with rfl | rfl <;> assumption
  clear hcs
  go_enter Try.func33, Try.ntmps33
  have HW := Lib.hid (show rdAction q.bs q.at_ = thn (rdSmall q.bs q.at_) fun op a => thn (rdNum q.bs a) fun side a => thn (rdNum q.bs a) fun place a => thn (rdNum q.bs a) fun target a => thn (rdInts q.bs a) fun ids a => thn (rdPairs q.bs a) fun pairs a => .ok ((⟨op, side, place, target, ids, pairs⟩ : ActionP), a) from rfl)
  have hg0 : RGot B w q w (q.to q.at_) xb cs t := ⟨hq, Turn.refl _ _, hx⟩
  have cb := small_r w B (q.to q.at_) xb 0 cs t p0.op hg0.at' (Nat.le_trans hB hg0.turn.size) hg0.blk i0 hxB hxc
  have hcc : (q.to q.at_).c = q.c := rfl
  rw [hcc] at cb
  go_wp2_with fail
  refine cb.mono ?_
  clear cb
  rintro e w1 hres
  rcases hE1 : rdSmall q.bs q.at_ with p | ⟨v1, a1⟩
  · obtain ⟨rfl, hbE⟩ := hres.err hE1
    have HR := Lib.hid (show rdAction q.bs q.at_ = .error p by
      rw [HW.out, hE1]
      rfl)
    have hbB : RBad w q w1 xb t := RBad.after hg0 hx rfl hbE rfl
    clear hres
    go_wp2_with fail
    refine ⟨rfl, ?_⟩
    rw [HR.out]
    exact ⟨rfl, hbB⟩
  obtain ⟨rfl, hr⟩ := hres.ok hE1
  rw [hE1, thn_ok] at HW
  replace hr := hg0.chain (q'' := q.to a1) hr rfl
  obtain ⟨C1, hC1⟩ : ∃ C : Array Value, C = cs.setIfInBounds 0 (.int .i8 v1) := ⟨_, rfl⟩
  have hg1 : RGot B w q w1 (q.to a1) xb C1 t := by rw [hC1]; exact hr
  have hk1 : ∀ j, 0 + 1 ≤ j → C1[j]? = cs[j]? := fun j hj => by
    rw [hC1]
    exact set_ne (by omega)
  have hs1 : C1.size = cs.size := by rw [hC1]; simp only [Array.size_setIfInBounds, putRow_size] <;> exact rfl
  have wf1 := wf8_rdSmall hE1
  clear hr hres hE1
  go_upto_region 1 with (fail)
  have hi31 : ∀ j, j < 3 → ∃ v, C1[1 + j]? = some (.int .i64 v) := fun j hj => by
    obtain ⟨v, hv⟩ := hi3 j hj
    exact ⟨v, (hk1 _ (by omega)).trans hv⟩
  have hB1 := Nat.le_trans hB hg1.turn.size
  have hq1 := hg1.at'
  have hx1 := hg1.blk
  refine wp_region_treeR false (KeepAt (fun _ => False)) (KeepAt.refl _) (fun _ _ _ h1 h2 => KeepAt.trans h1 h2) (.step 0 (.step 1 (.step 2 (.step 3 (.step 4 (.step 5 (.step 6 (.step 7 (.step 8 (.step 9 (.step 10 (.step 11 .done)))))))))))) (by kernel_rfl) (by kernel_rfl) (fun c a d v w h => by cases d <;> exact h) ?_
  repeat (first | (refine tree_skip rfl (by rfl) ?_; simp only [Act.put, List.setIfInBounds_toArray, List.set]) | (refine tree_quiet (v := ?_) rfl rfl (by rfl) ?_ ?_; rotate_left; (intro W hW; go_simp); (try with_reducible rfl); simp only [Act.put, List.setIfInBounds_toArray, List.set]))
  refine tree_loud rfl rfl (by rfl) (fun K hK => ?_); go_wp2_with fail
  refine hK _ _ ⟨by simp, fun _ h => h.elim⟩ ?_
  clear hK K
  repeat (first | (refine tree_skip rfl (by rfl) ?_; simp only [Act.put, List.setIfInBounds_toArray, List.set]) | (refine tree_quiet (v := ?_) rfl rfl (by rfl) ?_ ?_; rotate_left; (intro W hW; go_simp); (try with_reducible rfl); simp only [Act.put, List.setIfInBounds_toArray, List.set]))
  refine tree_loud rfl rfl (by rfl) (fun K hK => ?_); go_wp2_with fail
  have hb1 : Below w1.heap.size w1 (w1.alloc (.cells #[.pointer (some ⟨xb, 1, none⟩), .pointer (some ⟨xb, 2, none⟩), .pointer (some ⟨xb, 3, none⟩)] 80)).drew := by (try unfold Kept); repeat (first | assumption | exact Below.refl _ _ | exact below_undrew (Below.refl _ _) | exact Below.mono (by assumption) (by first | (simp; done) | (simp; omega) | omega) | refine below_setRow ?_ (by first | (simp; done) | (simp; omega) | omega) _ | refine Below.setCell ?_ (by first | (simp; done) | (simp; omega) | omega) _ | refine Below.alloc ?_ (by first | (simp; done) | (simp; omega) | omega) _ | refine below_drewN ?_ _ | refine Below.drew ?_ | refine below_undrew ?_ | refine below_step ?_ (by assumption))
  have cb := nums_r _ B (q.to a1) w1.heap.size 3 xb 1 C1 _ (hq1.old hb1 hB1) (Nat.le_trans hB1 hb1.size) (Blk.new w1 #[.pointer (some ⟨xb, 1, none⟩), .pointer (some ⟨xb, 2, none⟩), .pointer (some ⟨xb, 3, none⟩)] 80).drew (Nat.ne_of_gt hq1.blk.lt) (Nat.ne_of_gt hx1.lt) (hx1.old hb1) hi31 hxB hxc (by omega)
  have hcc : (q.to a1).c = q.c := rfl
  rw [hcc] at cb
  refine cb.mono ?_
  clear cb
  rintro e w2 ⟨h1, h2⟩
  rcases Nat.lt_or_ge q.bs.length (a1 + 8 * 3) with hless | hmore
  · obtain ⟨rfl, hb2⟩ := h1 hless
    have HR := Lib.hid (show rdAction q.bs q.at_ = .error q.bs.length by rw [HW.out]; exact rd3_err q.bs a1 _ (by omega))
    have hb3 : RBad w q w2 xb t := RBad.after hg1 hx hs1 (RBad.pre hb1 hb2) rfl
    clear h1 h2 hK
    go_wp2_with fail
    refine ⟨rfl, ?_⟩
    rw [HR.out]
    exact ⟨rfl, hb3⟩
  obtain ⟨rfl, hr⟩ := h2 hmore
  have hz2 := hr.turn.size
  replace hr := hg1.chain (q'' := q.to (a1 + 8 * 3)) (hr.pre hb1) rfl
  have HW2 := Lib.hid (show rdAction q.bs q.at_ = thn (rdInts q.bs (a1 + 8 * 3)) fun ids a => thn (rdPairs q.bs a) fun pairs a => .ok ((⟨v1, numAt q.bs a1, numAt q.bs (a1 + 8), numAt q.bs (a1 + 16), ids, pairs⟩ : ActionP), a) by
    rw [HW.out]
    exact rd3_ok q.bs a1 (fun side place target a => thn (rdInts q.bs a) fun ids a => thn (rdPairs q.bs a) fun pairs a => .ok ((⟨v1, side, place, target, ids, pairs⟩ : ActionP), a)) hmore)
  clear h1 h2 HW
  have HW := HW2
  clear HW2
  go_wp2_with fail
  refine hK _ _ ⟨by simpa using hz2, fun _ h => h.elim⟩ ?_
  clear hK K
  refine tree_done ?_
  obtain ⟨C2, hC2⟩ : ∃ C, C = putRow C1 1 (numsV q.bs a1 3) := ⟨_, rfl⟩
  obtain ⟨a2, ha2⟩ : ∃ a, a = a1 + 8 * 3 := ⟨_, rfl⟩
  have hg2 : RGot B w q w2 (q.to a2) xb C2 t := by rw [hC2, ha2]; exact hr
  have hs2 : C2.size = cs.size := by rw [hC2, putRow_size]; exact hs1
  have hk2 : ∀ j, 4 ≤ j → C2[j]? = cs[j]? := fun j hj => by
    rw [hC2, putRow_other _ _ _ _ (.inr (by simp; omega))]
    exact hk1 j (by omega)
  rw [← ha2] at HW
  clear hr
  have cb := list_int_r w2 B (q.to a2) xb 4 C2 t h0.ids hg2.at' (Nat.le_trans hB hg2.turn.size) hg2.blk ((hk2 _ (by omega)).trans i4) hxB hxc
  have hcc : (q.to a2).c = q.c := rfl
  rw [hcc] at cb
  go_wp2_with fail
  refine cb.mono ?_
  clear cb
  rintro e w3 hres
  rcases hE3 : rdInts q.bs a2 with p | ⟨v3, a3⟩
  · obtain ⟨rfl, hbE⟩ := hres.err hE3
    have HR := Lib.hid (show rdAction q.bs q.at_ = .error p by
      rw [HW.out, hE3]
      rfl)
    have hbB : RBad w q w3 xb t := RBad.after hg2 hx hs2 hbE rfl
    clear hres
    go_wp2_with fail
    refine ⟨rfl, ?_⟩
    rw [HR.out]
    exact ⟨rfl, hbB⟩
  obtain ⟨rfl, s3, ho3, hr⟩ := hres.ok hE3
  rw [hE3, thn_ok] at HW
  have hp3 : OwnInts w3 w.heap.size s3 v3 := ho3.lower hg2.turn.size
  clear ho3
  replace hr := hg2.chain (q'' := q.to a3) hr rfl
  obtain ⟨C3, hC3⟩ : ∃ C : Array Value, C = C2.setIfInBounds 4 (.slice s3.a s3.n s3.c) := ⟨_, rfl⟩
  have hg3 : RGot B w q w3 (q.to a3) xb C3 t := by rw [hC3]; exact hr
  have hk3 : ∀ j, 4 + 1 ≤ j → C3[j]? = cs[j]? := fun j hj => by
    rw [hC3]
    exact (set_ne (by omega)).trans (hk2 j (by omega))
  have hs3 : C3.size = cs.size := by rw [hC3]; simp only [Array.size_setIfInBounds, putRow_size] <;> exact hs2
  clear hr hres hE3
  have cb := list_pair_r w3 B (q.to a3) xb 5 C3 t h0.pairs hg3.at' (Nat.le_trans hB hg3.turn.size) hg3.blk ((hk3 _ (by omega)).trans i5) hxB hxc
  have hcc : (q.to a3).c = q.c := rfl
  rw [hcc] at cb
  go_wp2_with fail
  refine cb.mono ?_
  clear cb
  rintro e w4 hres
  rcases hE4 : rdPairs q.bs a3 with p | ⟨v4, a4⟩
  · obtain ⟨rfl, hbE⟩ := hres.err hE4
    have HR := Lib.hid (show rdAction q.bs q.at_ = .error p by
      rw [HW.out, hE4]
      rfl)
    have hbB : RBad w q w4 xb t := RBad.after hg3 hx hs3 hbE rfl
    clear hres
    go_wp2_with fail
    refine ⟨rfl, ?_⟩
    rw [HR.out]
    exact ⟨rfl, hbB⟩
  obtain ⟨rfl, s4, ho4, hr⟩ := hres.ok hE4
  rw [hE4, thn_ok] at HW
  have hp4 : OwnPairs w4 w.heap.size s4 v4 := ho4.lower hg3.turn.size
  clear ho4
  replace hp3 := hp3.turn hr.turn hF
  replace hr := hg3.chain (q'' := q.to a4) hr rfl
  obtain ⟨C4, hC4⟩ : ∃ C : Array Value, C = C3.setIfInBounds 5 (.slice s4.a s4.n s4.c) := ⟨_, rfl⟩
  have hg4 : RGot B w q w4 (q.to a4) xb C4 t := by rw [hC4]; exact hr
  have hk4 : ∀ j, 5 + 1 ≤ j → C4[j]? = cs[j]? := fun j hj => by
    rw [hC4]
    exact (set_ne (by omega)).trans (hk3 j (by omega))
  have hs4 : C4.size = cs.size := by rw [hC4]; simp only [Array.size_setIfInBounds, putRow_size] <;> exact hs3
  clear hr hres hE4
  go_wp2_with fail
  refine bodyPost_end (v := .tuple #[]) (results_none rfl _ _ _) rfl ?_
  rw [HW.out]
  refine ⟨rfl, ⟨s3, s4⟩, ⟨wf1, wf64_numAt _ _, wf64_numAt _ _, wf64_numAt _ _, hp3, hp4⟩, ?_⟩
  have e1 : (actionCells ⟨v1, numAt q.bs a1, numAt q.bs (a1 + 8), numAt q.bs (a1 + 16), v3, v4⟩ ⟨s3, s4⟩).toArray = C4 := by
    rw [← putRow_all (cs := cs) (by rw [hsz]; rfl), hC4, hC3, hC2, hC1, numsV3]
    simp only [actionCells, putRow, Nat.zero_add, Nat.reduceAdd]
  dsimp only
  rw [e1]
  exact hg4
end Go.Proofs.Ytdokkhjgmhcpkaa
