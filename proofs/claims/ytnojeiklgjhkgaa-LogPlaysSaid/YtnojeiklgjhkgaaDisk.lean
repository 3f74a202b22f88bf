/- The walks through package disk: looking a file up, counting a call, crashing. -/
import Derived.Test.YtnojeiklgjhkgaaDiskMem
import Derived.Test.YtnojeiklgjhkgaaKept
import Derived.Test.YtnojeiklgjhkgaaReads
import Derived.StringKeys
namespace Go.Proofs.Ytnojeiklgjhkgaa
open Go.RowKit Go.Maps

theorem keyS : Keyed Try.prog 9 := string_keyed Try.underlying9
theorem zeroFile (w : World) : (zeroValue 84).run Try.prog w = .ok (.pointer none) w := by kernel_rfl
theorem entry_keys (fs : List FileR) : (fs.map entryR).map Prod.fst = fs.map fun f => nameL f.nm := by rw [List.map_map]; rfl
section
variable {w w' : World} {B : Nat} {r : DiskR} {nm : Name}
theorem DiskAt.look (h : DiskAt w B r) (hs : nm.size ≤ maxLen) {f : FileR} (hf : f ∈ r.fs) (hn : f.nm = nm) : (Instr.lookup 79 (.map (some r.m)) (.string nm) false).run Try.prog w = .ok (.pointer (some ⟨f.blk, 0, none⟩)) w := by
  obtain ⟨v, ps, hr, hv⟩ := h.map.look keyS Try.underlying79 (zeroFile w) rfl (Go.WideMaps.keyOf_string_mk Try.underlying9 hs) (d := .lit (.int .i64 (f.blk : Int))) (List.mem_map.2 ⟨f, hf, by simp [entryR, nameL, hn]⟩)
  rw [hr, Rp_inv hv]
theorem DiskAt.look_no (h : DiskAt w B r) (hs : nm.size ≤ maxLen) (hn : ∀ f ∈ r.fs, f.nm ≠ nm) : (Instr.lookup 79 (.map (some r.m)) (.string nm) false).run Try.prog w = .ok (.pointer none) w := by
  obtain ⟨v, ps, hr, hv⟩ := h.map.look_no keyS Try.underlying79 (zeroFile w) rfl (Go.WideMaps.keyOf_string_mk Try.underlying9 hs) (by
    rw [entry_keys]
    intro hm
    obtain ⟨f, hf, e⟩ := List.mem_map.1 hm
    exact hn f hf (nameL_inj e))
  rw [hr, Rp_nil hv]
theorem findR (fs : List FileR) (nm : Name) : (∃ f ∈ fs, f.nm = nm ∧ (fs.map (·.p)).find? (fun f => f.name = nm) = some f.p) ∨ ((∀ f ∈ fs, f.nm ≠ nm) ∧ (fs.map (·.p)).find? (fun f => f.name = nm) = none) := by
  induction fs with
  | nil => exact .inr ⟨by simp, rfl⟩
  | cons x l ih =>
    by_cases e : x.nm = nm
    · exact .inl ⟨x, by simp, e, by simp [FileR.p, e]⟩
    · rcases ih with ⟨f, hf, h1, h2⟩ | ⟨h1, h2⟩
      · refine .inl ⟨f, by simp [hf], h1, ?_⟩
        rw [List.map_cons, List.find?_cons, decide_eq_false (show ¬ x.p.name = nm from e)]
        exact h2
      · refine .inr ⟨?_, ?_⟩
        · intro f hf
          rcases List.mem_cons.1 hf with rfl | hf'
          · exact e
          · exact h1 f hf'
        · rw [List.map_cons, List.find?_cons, decide_eq_false (show ¬ x.p.name = nm from e)]
          exact h2
end
theorem str_nil (s : ByteArray) : s.toList.isEmpty = decide (s.size = 0) := by
  obtain ⟨⟨l⟩⟩ := s
  rw [show (ByteArray.mk ⟨l⟩).toList = l from ByteArray.toList_mk l, show (ByteArray.mk ⟨l⟩).size = l.length from by simp [ByteArray.size]]
  cases l <;> simp
theorem named_any (s : ByteArray) (w : World) : Calls Try.prog 58 #[.string s] w fun e w' => e = .returned (.bool (okName s)) ∧ w' = w := by
  have hk : okName s = (!s.toList.isEmpty && decide ((s.size : Int) ≤ 40)) := by
    unfold okName
    rw [str_nil]
    by_cases h0 : s.size = 0
    · simp [h0]
    · simp [h0]; omega
  rw [hk]
  clear hk
  by_cases h0 : s.toList.isEmpty = true
  · have h1 : s.toList = [] := List.isEmpty_iff.1 h0
    rw [h0]
    go_enter Try.func58, Try.ntmps58
    go_wp2_with fail
    all_goals first | (exact absurd h1 (by assumption)) | (go_ret; exact ⟨rfl, rfl⟩)
  · have h1 : ¬ s.toList = [] := fun e => h0 (by rw [e]; rfl)
    go_enter Try.func58, Try.ntmps58
    go_wp2_with fail
    all_goals first | (exact absurd (by assumption) h1) | (go_ret; exact ⟨by simp [List.isEmpty_eq_false_iff.2 h1], rfl⟩)
/-- Whatever is asked of a file by its name. -/
theorem may_any {w : World} {B : Nat} {r : DiskR} {nm : Name} (h : DiskAt w B r) (hs : nm.size ≤ maxLen) (g : Nat) (lb : Array Value) (eg : ∀ args w, (callFunc g args).run Try.prog w = .ok (.enter g args) w) (R : Int → World → Prop)
    (hdown : r.down = true → R 5 w) (hnone : r.down = false → (∀ f ∈ r.fs, f.nm ≠ nm) → R 4 w)
    (hfound : ∀ f ∈ r.fs, f.nm = nm → r.down = false → Calls Try.prog g (#[.pointer (some ⟨f.blk, 0, none⟩)] ++ lb) w fun e w' => ∃ v, e = .returned (.int .i64 v) ∧ R v w') :
    Calls Try.prog 52 #[.pointer (some ⟨r.d, 0, none⟩), .string nm, .func (.func g) #[] lb] w fun e w' => ∃ v, e = .returned (.int .i64 v) ∧ R v w' := by
  have hb := h.blk.rule
  unfold headV at hb
  cases hdn : r.down with
  | true =>
    rw [hdn] at hb
    go_enter Try.func52, Try.ntmps52
    go_wp2_with fail
    go_ret
    exact ⟨5, rfl, hdown hdn⟩
  | false =>
    rw [hdn] at hb
    rcases findR r.fs nm with ⟨f, hf, h1, _⟩ | ⟨h1, _⟩
    · have hl := h.look hs hf h1
      go_enter Try.func52, Try.ntmps52
      go_wp2_with fail
      refine (hfound f hf h1 hdn).mono ?_
      rintro e w1 ⟨v, rfl, hR⟩
      go_wp2_with fail
      go_ret
      exact ⟨v, rfl, hR⟩
    · have hl := h.look_no hs h1
      go_enter Try.func52, Try.ntmps52
      go_wp2_with fail
      go_ret
      exact ⟨4, rfl, hnone hdn h1⟩

/-- The step of a range over a disk's files. -/
theorem wpList_next_file {w : World} {ops : Array Oper} {rest : List Oper} {o : Oper} {a : Act} {Q : Exit → Act → World → Prop} (hg : o.guard = none) (it : Operand) (hop : o.op = Op.next it false) {M n : Nat} {l : List (Lit × DU)} {ys : List FileR}
    (hit : a.eval it = .pointer (some ⟨n, 0, none⟩)) (h : GRan w Try.prog 9 Rp M n l (ys.map entryR))
    (hDone : ys = [] → wpList Try.prog ops Q rest (a.put o.dst (.tuple #[.bool false])) w)
    (hMore : ∀ f ∈ ys, ∀ w', GRan w' Try.prog 9 Rp M n l ((ys.filter fun g => decide (g.nm ≠ f.nm)).map entryR) → w'.rangeLeft M n < w.rangeLeft M n → w.grownBy w' (some n) → w'.heap.size = w.heap.size →
      (Instr.entry (.pointer (some ⟨n, 0, none⟩))).run Try.prog w' = .ok (.tuple #[.string f.nm, .pointer (some ⟨f.blk, 0, none⟩)]) w' → wpList Try.prog ops Q rest (a.put o.dst (.tuple #[.bool true, .string f.nm, .pointer (some ⟨f.blk, 0, none⟩)])) w') :
    wpList Try.prog ops Q (o :: rest) a w := by
  refine wpList_plain hg fun K' hK' => ?_
  unfold Oper.wp
  rcases h.next keyS o.type with ⟨h0, hrun⟩ | ⟨key, v, kl, d, ps, w', hkey, hm, hv, hrun, hgr, hlt, hgb, hsz, hen⟩
  · simp [execOp, hop, hit, hrun, Result.andThen]
    exact hK' _ _ (hDone (by simpa using h0))
  · obtain ⟨f, hf, he⟩ := List.mem_map.1 hm
    obtain ⟨s, rfl, hs, _⟩ := Go.WideMaps.string_of_keyOf Try.underlying9 hkey
    have e1 : nameL f.nm = kl := congrArg Prod.fst he
    have e2 : (DataW.lit (.int .i64 (f.blk : Int)) : DU) = d := congrArg Prod.snd he
    obtain rfl : s = f.nm := nameL_inj (by rw [e1, hs]; rfl)
    rw [← e2] at hv
    obtain rfl := Rp_inv hv
    have e3 : (ys.map entryR).filter (fun x => !keyIs kl x) = (ys.filter fun g => decide (g.nm ≠ f.nm)).map entryR := by
      rw [List.filter_map]
      refine congrArg (List.map entryR) ?_
      refine List.filter_congr fun g _ => ?_
      simp only [Function.comp, keyIs, entryR, ← e1]
      by_cases e : g.nm = f.nm
      · rw [e, (sameKey_iff (show WideAt.IsKeyLit (nameL f.nm) by simp [nameL, WideAt.IsKeyLit])).2 rfl]; simp
      · have : Lit.sameKey (nameL g.nm) (nameL f.nm) = false := by
          rw [Bool.eq_false_iff]
          intro e4
          exact e (nameL_inj (WideAt.sameKey_eq e4))
        rw [this]; simp [e]
    rw [e3] at hgr
    simp [execOp, hop, hit, hrun, Result.andThen]
    exact hK' _ _ (hMore f hf w' hgr hlt hgb hsz hen)

theorem pieceT : AggT Try.prog 87 2 := ⟨⟨_, Try.underlying87, rfl⟩, by kernel_rfl⟩
theorem beq_name (a b : ByteArray) : (a.toList == b.toList) = decide (a = b) := by
  obtain ⟨⟨l⟩⟩ := a
  obtain ⟨⟨m⟩⟩ := b
  rw [show (ByteArray.mk ⟨l⟩).toList = l from ByteArray.toList_mk l, show (ByteArray.mk ⟨m⟩).toList = m from ByteArray.toList_mk m]
  rw [Bool.eq_iff_iff, beq_iff_eq, decide_eq_true_iff]
  simp
theorem pick_any (bx : Nat) (nm : Name) (x : Name × Int) (w : World) (h : w.cell? ⟨bx, 0, none⟩ = some (.string nm)) :
    Calls Try.prog 40 #[.agg #[.string x.1, .int .i64 x.2], .pointer (some ⟨bx, 0, none⟩)] w fun e w' => e = .returned (.bool (decide (x.1 = nm))) ∧ Below w.heap.size w w' := by
  have hlt := World.block_lt_of_cell? w _ h
  rw [← beq_name]
  go_enter Try.func40, Try.ntmps40
  have hc : (w.alloc (.cells #[.string x.1, .int .i64 x.2] 87)).cell? ⟨bx, 0, none⟩ = some (.string nm) := by rw [((Below.refl _ _).alloc (Nat.le_refl _) _ : Below w.heap.size w _).cell hlt]; exact h
  go_wp2_with fail
  go_ret
  exact ⟨rfl, (Below.refl _ _).alloc (Nat.le_refl _) _⟩
theorem planT : RowType Try.prog 42 87 2 24 := RowType.mk (z := .agg #[.string ByteArray.empty, .int .i64 0]) Try.underlying42 (by kernel_rfl) rfl (by omega)
def IdxRel (w : World) (plan : PlanP) (nm : Name) (n : Nat) (f : Nat) (i : Value) (w' : World) : Prop :=
  ∃ k : Nat, k + f = n ∧ i = .int .i64 (k : Int) ∧ (∀ j (h : j < plan.length), j < k → plan[j].1 ≠ nm) ∧ Below w.heap.size w w'
set_option maxHeartbeats 1000000 in
theorem index_any (a : Option Addr) (n c : Nat) (plan : PlanP) (bx : Nat) (nm : Name) (w : World) (h : w.cell? ⟨bx, 0, none⟩ = some (.string nm)) (hp : RowAt w a (plan.flatMap pieceV)) (hn : plan.length = n) (hm : n ≤ maxLen) :
    Calls Try.prog 39 #[.slice a n c, .func (.func 40) #[] #[.pointer (some ⟨bx, 0, none⟩)]] w fun e w' =>
      ∃ k : Int, e = .returned (.int .i64 k) ∧ Below w.heap.size w w' ∧ ((k = -1 ∧ ∀ x ∈ plan, x.1 ≠ nm) ∨ ∃ (i : Nat) (hi : i < plan.length), k = (i : Int) ∧ plan[i].1 = nm ∧ ∀ j (hj : j < plan.length), j < i → plan[j].1 ≠ nm) := by
  have hlt := World.block_lt_of_cell? w _ h
  have HN := Lib.hid hn
  clear hn
  unfold maxLen at hm
  go_enter Try.func39, Try.ntmps39
  go_wp2_with fail
  go_loopg [8] n (IdxRel w plan nm n)
  case atStart => exact ⟨0, by omega, rfl, fun _ _ h => by omega, Below.refl _ _⟩
  case round =>
    obtain ⟨k, hk, rfl, hno, hb⟩ := hrel
    by_cases hlt2 : k < n
    · have hkl : k < plan.length := by rw [HN.out]; exact hlt2
      obtain ⟨b, o, rfl, hbl, hc⟩ := hp.elem (g := pieceV) (sz := 2) (fun _ => rfl) (by omega) k hkl
      have HT := Lib.hid (show ∃ x, plan[k] = x from ⟨_, rfl⟩)
      obtain ⟨x, hx⟩ := HT.out
      clear HT
      rw [hx] at hc
      have hcw : ∀ j (hj : j < (pieceV x).length), wr.cell? ⟨b, o + k * 2 + j, none⟩ = some (pieceV x)[j] := fun j hj => by rw [hb.cell (show b < w.heap.size from hbl)]; exact hc j hj
      have HC := Lib.hid hcw
      have hbx : wr.cell? ⟨bx, 0, none⟩ = some (.string nm) := by rw [hb.cell hlt]; exact h
      clear hc hcw
      by_cases he : x.1 = nm
      · have HD := Lib.hid (show decide (x.1 = nm) = true by simp [he])
        have HE := Lib.hid he
        clear he
        go_wp2_with (first | refine wpList_load_as rfl 87 pieceT (.tmp 14) rfl rfl (v := .agg #[.string x.1, .int .i64 x.2]) rfl HC.out rfl ?_ | (go_at_call 40; have hpk := pick_any bx nm x _ hbx; rw [HD.out] at hpk; refine hpk.mono ?_; rintro e w1 ⟨rfl, hb1⟩))
        go_ret
        exact ⟨k, rfl, below_step hb hb1, .inr ⟨k, hkl, rfl, by rw [hx]; exact HE.out, hno⟩⟩
      · go_wp2_with (first | refine wpList_load_as rfl 87 pieceT (.tmp 14) rfl rfl (v := .agg #[.string x.1, .int .i64 x.2]) rfl HC.out rfl ?_ | (go_at_call 40; refine (pick_any bx nm x _ hbx).mono ?_; rintro e w1 ⟨rfl, hb1⟩))
        go_roundg (gk - 1)
        case measure => omega
        case rel =>
          refine ⟨k + 1, by omega, by go_num, fun j hj hjk => ?_, below_step hb hb1⟩
          by_cases e : j = k
          · subst e; rw [hx]; exact he
          · exact hno j hj (by omega)
    · have hkn : k = n := by omega
      go_wp2_with fail
      go_ret
      refine ⟨-1, rfl, hb, .inl ⟨rfl, fun x hx => ?_⟩⟩
      obtain ⟨j, hj, rfl⟩ := List.mem_iff_getElem.1 hx
      exact hno j hj (by rw [HN.out] at hj; omega)
end Go.Proofs.Ytnojeiklgjhkgaa
