/- Views as bytes: what the program writes. -/
import Derived.Test.YtiglljegpdlnmaaThings
import Derived.Test.YtiglljegpdlnmaaKept
namespace Go.Proofs.Ytiglljegpdlnmaa
open Go.RowKit

theorem bytesT' : RowType Try.prog 43 5 1 1 := RowType.mk (z := .int .u8 0) Try.underlying43 (by kernel_rfl) rfl (by omega)
theorem asII (v : Value) (w : World) : (Instr.typeAssert (.iface 3 v) 20 3 true).run Try.prog w = .ok (.tuple #[v, .bool true]) w := by kernel_rfl
theorem asIS (v : Value) (w : World) : (Instr.typeAssert (.iface 3 v) 20 23 true).run Try.prog w = .ok (.tuple #[.int .i8 0, .bool false]) w := by kernel_rfl
theorem asIB (v : Value) (w : World) : (Instr.typeAssert (.iface 3 v) 20 4 true).run Try.prog w = .ok (.tuple #[.bool false, .bool false]) w := by kernel_rfl
theorem asIL (v : Value) (w : World) : (Instr.typeAssert (.iface 3 v) 20 24 true).run Try.prog w = .ok (.tuple #[.slice none 0 0, .bool false]) w := by kernel_rfl
theorem asIU (v : Value) (w : World) : (Instr.typeAssert (.iface 3 v) 20 36 true).run Try.prog w = .ok (.tuple #[.slice none 0 0, .bool false]) w := by kernel_rfl
theorem asSI (v : Value) (w : World) : (Instr.typeAssert (.iface 23 v) 20 3 true).run Try.prog w = .ok (.tuple #[.int .i64 0, .bool false]) w := by kernel_rfl
theorem asSS (v : Value) (w : World) : (Instr.typeAssert (.iface 23 v) 20 23 true).run Try.prog w = .ok (.tuple #[v, .bool true]) w := by kernel_rfl
theorem asSB (v : Value) (w : World) : (Instr.typeAssert (.iface 23 v) 20 4 true).run Try.prog w = .ok (.tuple #[.bool false, .bool false]) w := by kernel_rfl
theorem asSL (v : Value) (w : World) : (Instr.typeAssert (.iface 23 v) 20 24 true).run Try.prog w = .ok (.tuple #[.slice none 0 0, .bool false]) w := by kernel_rfl
theorem asSU (v : Value) (w : World) : (Instr.typeAssert (.iface 23 v) 20 36 true).run Try.prog w = .ok (.tuple #[.slice none 0 0, .bool false]) w := by kernel_rfl
theorem asBI (v : Value) (w : World) : (Instr.typeAssert (.iface 4 v) 20 3 true).run Try.prog w = .ok (.tuple #[.int .i64 0, .bool false]) w := by kernel_rfl
theorem asBS (v : Value) (w : World) : (Instr.typeAssert (.iface 4 v) 20 23 true).run Try.prog w = .ok (.tuple #[.int .i8 0, .bool false]) w := by kernel_rfl
theorem asBB (v : Value) (w : World) : (Instr.typeAssert (.iface 4 v) 20 4 true).run Try.prog w = .ok (.tuple #[v, .bool true]) w := by kernel_rfl
theorem asBL (v : Value) (w : World) : (Instr.typeAssert (.iface 4 v) 20 24 true).run Try.prog w = .ok (.tuple #[.slice none 0 0, .bool false]) w := by kernel_rfl
theorem asBU (v : Value) (w : World) : (Instr.typeAssert (.iface 4 v) 20 36 true).run Try.prog w = .ok (.tuple #[.slice none 0 0, .bool false]) w := by kernel_rfl
theorem asLI (v : Value) (w : World) : (Instr.typeAssert (.iface 24 v) 20 3 true).run Try.prog w = .ok (.tuple #[.int .i64 0, .bool false]) w := by kernel_rfl
theorem asLS (v : Value) (w : World) : (Instr.typeAssert (.iface 24 v) 20 23 true).run Try.prog w = .ok (.tuple #[.int .i8 0, .bool false]) w := by kernel_rfl
theorem asLB (v : Value) (w : World) : (Instr.typeAssert (.iface 24 v) 20 4 true).run Try.prog w = .ok (.tuple #[.bool false, .bool false]) w := by kernel_rfl
theorem asLL (v : Value) (w : World) : (Instr.typeAssert (.iface 24 v) 20 24 true).run Try.prog w = .ok (.tuple #[v, .bool true]) w := by kernel_rfl
theorem asLU (v : Value) (w : World) : (Instr.typeAssert (.iface 24 v) 20 36 true).run Try.prog w = .ok (.tuple #[.slice none 0 0, .bool false]) w := by kernel_rfl
theorem asUI (v : Value) (w : World) : (Instr.typeAssert (.iface 36 v) 20 3 true).run Try.prog w = .ok (.tuple #[.int .i64 0, .bool false]) w := by kernel_rfl
theorem asUS (v : Value) (w : World) : (Instr.typeAssert (.iface 36 v) 20 23 true).run Try.prog w = .ok (.tuple #[.int .i8 0, .bool false]) w := by kernel_rfl
theorem asUB (v : Value) (w : World) : (Instr.typeAssert (.iface 36 v) 20 4 true).run Try.prog w = .ok (.tuple #[.bool false, .bool false]) w := by kernel_rfl
theorem asUL (v : Value) (w : World) : (Instr.typeAssert (.iface 36 v) 20 24 true).run Try.prog w = .ok (.tuple #[.slice none 0 0, .bool false]) w := by kernel_rfl
theorem asUU (v : Value) (w : World) : (Instr.typeAssert (.iface 36 v) 20 36 true).run Try.prog w = .ok (.tuple #[v, .bool true]) w := by kernel_rfl
/-- A number as 8 bytes. -/
def be8 (n : Int) : List UInt8 := (List.range 8).map fun i => ⟨((BitVec.ofInt 64 n) >>> (56 - 8 * i)).setWidth 8⟩
theorem be8_byte (n : Int) (k : Nat) : IntKind.u8.wrap (IntKind.u64.wrap n / 2 ^ k) = U8 ⟨((BitVec.ofInt 64 n) >>> k).setWidth 8⟩ := by
  have e : IntKind.u64.wrap n = U64 (BitVec.ofInt 64 n) := by
    simp only [U64, BitVec.toNat_ofInt, IntKind.wrap, IntKind.bits, IntKind.signed]
    simp
    omega
  rw [e, U64_shr_pow]
  have := U64_byte (BitVec.ofInt 64 n >>> k)
  rw [← this]
  simp [IntKind.wrap, IntKind.bits, IntKind.signed]
theorem be8_take (n : Int) (i : Nat) (h : i < 8) : (be8 n).take (i + 1) = (be8 n).take i ++ [⟨((BitVec.ofInt 64 n) >>> (56 - 8 * i)).setWidth 8⟩] := by
  rw [List.take_succ_eq_append_getElem (by simp [be8]; exact h)]
  simp [be8]
inductive Item where
  | num (n : Int)
  | small (n : Int)
  | truth (b : Bool)
  | ints (s : Sl) (l : List Int)
  | things (s : Sl) (l : List ThingL)
def Item.val : Item → Value
  | .num n => .iface 3 (.int .i64 n)
  | .small n => .iface 23 (.int .i8 n)
  | .truth b => .iface 4 (.bool b)
  | .ints s _ => .iface 24 (.slice s.a s.n s.c)
  | .things s _ => .iface 36 (.slice s.a s.n s.c)
def tr1 (b : Bool) : List UInt8 := [if b then 1 else 0]
def encL (l : List Int) : List UInt8 := be8 l.length ++ l.flatMap be8
def thingB (u : ThingL) : List UInt8 := be8 u.id ++ be8 u.card ++ be8 u.harm ++ tr1 u.tired
def encU (l : List ThingL) : List UInt8 := be8 l.length ++ l.flatMap thingB
def Item.enc : Item → List UInt8
  | .num n => be8 n
  | .small n => be8 n
  | .truth b => tr1 b
  | .ints _ l => encL l
  | .things _ l => encU l
def Item.flat : Item → Prop
  | .num n => wf64 n
  | .truth _ => True
  | _ => False

theorem be8_length (n : Int) : (be8 n).length = 8 := by simp [be8]
theorem thingB_length (u : ThingL) : (thingB u).length = 25 := by simp [thingB, be8_length, tr1]
theorem enc_bound (its : List Item) (j : Nat) (h : j < its.length) : ((its.take j).flatMap Item.enc).length + its[j].enc.length ≤ (its.flatMap Item.enc).length := by
  have e : its = its.take j ++ its[j] :: its.drop (j + 1) := by simp
  have : (its.flatMap Item.enc).length = ((its.take j).flatMap Item.enc).length + (its[j].enc.length + ((its.drop (j + 1)).flatMap Item.enc).length) := by
    conv => lhs; rw [e]
    rw [List.flatMap_append, List.length_append, List.flatMap_cons, List.length_append]
  omega
theorem enc_count (its : List Item) (h : ∀ x ∈ its, 1 ≤ x.enc.length) : its.length ≤ (its.flatMap Item.enc).length := by
  induction its with
  | nil => simp
  | cons x l ih =>
    rw [List.flatMap_cons, List.length_append, List.length_cons]
    have h1 := h x (by simp)
    have h2 := ih fun y hy => h y (by simp [hy])
    omega
theorem enc_pos (x : Item) : 1 ≤ x.enc.length := by
  cases x <;> simp [Item.enc, be8_length, tr1, encL, encU] <;> omega
structure WriterAt (w : World) (w0 : World) (wb : Nat) (bs : List UInt8) : Prop where
  blk : ∃ a n c, Blk w wb #[.slice a n c] 63 ∧ Own w w0.heap.size 5 1 a n c (bs.map bv) ∧ bs.length = n
  low : w0.heap.size ≤ wb
  below : Below w0.heap.size w0 w

def PutRel (w w0 : World) (wb : Nat) (bs : List UInt8) (its : List Item) (f : Nat) (i : Value) (w' : World) : Prop :=
  ∃ k : Nat, k + f = its.length ∧ i = .int .i64 (k : Int) ∧ WriterAt w' w0 wb (bs ++ (its.take k).flatMap Item.enc) ∧ Keep2 5 wb w w'

def NumRel (w w0 : World) (wb : Nat) (bs : List UInt8) (n : Int) (f : Nat) (i : Value) (w' : World) : Prop :=
  ∃ k : Nat, k + f = 8 ∧ i = .int .i64 (k : Int) ∧ WriterAt w' w0 wb (bs ++ (be8 n).take k) ∧ Keep2 5 wb w w'

set_option maxRecDepth 100000 in
set_option maxHeartbeats 2000000 in
theorem put_flat (wb q k : Nat) (bs : List UInt8) (its : List Item) (w0 w : World) (hw : WriterAt w w0 wb bs) (hq : Blk w q (its.map Item.val).toArray 20) (hk : its.length = k) (hfl : ∀ x ∈ its, x.flat) (hsz : bs.length + (its.flatMap Item.enc).length ≤ 1000000000000) :
    Calls Try.prog 30 #[.pointer (some ⟨wb, 0, none⟩), .slice (some ⟨q, 0, none⟩) k k] w fun e w' => e = .returned (.tuple #[]) ∧ WriterAt w' w0 wb (bs ++ its.flatMap Item.enc) ∧ Keep2 5 wb w w' := by
  have HK := Lib.hid hk
  clear hk
  have hqw : q ≠ wb := by obtain ⟨a, n, c, hb, _⟩ := hw.blk; exact hq.ne hb (by decide)
  go_enter Try.func30, Try.ntmps30
  go_wp2_with fail
  go_loopg [19] k (PutRel w w0 wb bs its)
  case atStart => exact ⟨0, by rw [HK.out]; omega, rfl, by simpa using hw, Keep2.refl _⟩
  case round =>
    obtain ⟨j, hj, rfl, hwj, hkj⟩ := hrel
    rw [HK.out] at hj
    have hqj := hq.keep2 hkj (by decide) hqw
    have hkb : k ≤ 1000000000000 := by have := enc_count its fun x _ => enc_pos x; rw [HK.out] at this; omega
    by_cases hlt : j < k
    · have t0 : decide ((j : Int) < (k : Int)) = true := by simp; omega
      have hjl : j < its.length := by rw [HK.out]; exact hlt
      have hc : wr.cell? ⟨q, j, none⟩ = some its[j].val := by rw [hqj.rule]; simp [hjl]
      have hf := hfl its[j] (List.getElem_mem hjl)
      have HT := Lib.hid (List.take_succ_eq_append_getElem hjl)
      have hbnd := enc_bound its j hjl
      generalize its[j] = x at *
      cases x with
      | num n =>
        simp only [Item.val] at hc
        have s1 := asII
        go_wp2_with fail
        obtain ⟨wo, rfl⟩ : ∃ wo : World, wo = wr := ⟨_, rfl⟩
        obtain ⟨gk_1, hgk1⟩ : ∃ g : Nat, g = gk := ⟨_, rfl⟩
        have HG := Lib.hid hgk1
        clear hgk1
        go_loopg [27] 8 (NumRel wo w0 wb (bs ++ (its.take j).flatMap Item.enc) n)
        case atStart => exact ⟨0, rfl, rfl, by simpa using hwj, Keep2.refl _⟩
        case round =>
          obtain ⟨i, hi, rfl, hwi, hki⟩ := hrel
          by_cases hi8 : i < 8
          · have u0 : decide ((i : Int) < 8) = true := by simp; omega
            obtain ⟨⟨a1, n1, c1, hblk, hown, hln⟩, hlow, hbel⟩ := hwi
            have hn1 : n1 ≤ 1000000000000 := by
              have := hln
              rw [List.length_append, List.length_append, List.length_take, be8_length] at this
              have h8 : (Item.num n).enc.length = 8 := be8_length n
              omega
            have HLN := Lib.hid hln
            clear hln
            have hbz := hbel.size
            have v1 : IntKind.i64.wrap (8 * (i : Int)) = 8 * (i : Int) := IntWalk.i64_in _ (by omega)
            have v2 : IntKind.i64.wrap (56 - 8 * (i : Int)) = 56 - 8 * (i : Int) := IntWalk.i64_in _ (by omega)
            have v3 : (0 : Int) ≤ 56 - 8 * (i : Int) := by omega
            have v4 : (56 - 8 * (i : Int)).toNat = 56 - 8 * i := by omega
            go_wp2_with fail
            have r0 := fun W (hW : KeepNot 5 wr.drew W) => (hblk.drew.keepNot hW (by decide)).rule
            refine wp_region_treeN 5 (.step 0 (.step 1 (.step 2 (.step 3 (.step 4 (.step 5 (.step 6 (.step 7 (.step 8 (.step 9 (.step 10 (.step 11 (.step 12 (.step 13 (.step 14 (.step 15 (.step 16 .done))))))))))))))))) (by kernel_rfl) (by kernel_rfl) (fun c a d v w h => by cases d <;> exact h) ?_
            repeat (first | (refine tree_skip rfl (by rfl) ?_; simp only [Act.put, List.setIfInBounds_toArray, List.set]) | (refine tree_quiet (v := ?_) rfl rfl (by rfl) ?_ ?_; rotate_left; (intro W hW; go_simp); (try with_reducible rfl); simp only [Act.put, List.setIfInBounds_toArray, List.set]))
            have vb : IntKind.u64.wrap n / 2 ^ (56 - 8 * i) % 256 = U8 ⟨((BitVec.ofInt 64 n) >>> (56 - 8 * i)).setWidth 8⟩ := be8_byte n (56 - 8 * i)
            have HVB := Lib.hid vb
            clear vb v1 v2 v3 v4
            have hl1 := hown.drew.alloc (.cells #[.int .u8 (IntKind.u8.wrap (IntKind.u64.wrap n / 2 ^ (56 - 8 * i)))] 5)
            refine tree_loud rfl rfl (by rfl) (fun K hK => ?_); go_wp2_with fail
            refine hK _ _ (KeepNot.of (by (try unfold Kept); repeat (first | assumption | exact Below.refl _ _ | exact below_undrew (Below.refl _ _) | exact Below.mono (by assumption) (by first | (simp; done) | (simp; omega) | omega) | refine below_setRow ?_ (by first | (simp; done) | (simp; omega) | omega) _ | refine Below.setCell ?_ (by first | (simp; done) | (simp; omega) | omega) _ | refine Below.alloc ?_ (by first | (simp; done) | (simp; omega) | omega) _ | refine below_drewN ?_ _ | refine Below.drew ?_ | refine below_undrew ?_ | refine below_step ?_ (by assumption)))) ?_
            clear hK K
            refine tree_loud rfl rfl (by rfl) (fun K hK => ?_)
            refine wp_append_row (.tmp 34) (.tmp 42) 43 rfl bytesT' rfl hl1 rfl (RowAt.new' _ _ _ _ (by simp)) (by rfl) (by exact all_one _ rfl) (by unfold maxLen; omega) (by omega) (by have := hbel.size; simp; omega) ?_
            intro a2 c2 w2 hown2 hg2
            refine hK _ _ (KeepNot.grown hl1 hg2) ?_
            clear hK K
            have hblk2 := (hblk.drew.alloc (.cells #[.int .u8 (IntKind.u8.wrap (IntKind.u64.wrap n / 2 ^ (56 - 8 * i)))] 5)).keepNot (KeepNot.grown hl1 hg2) (by decide)
            have hbel2 : Below w0.heap.size w0 w2 := hl1.grown (by (try unfold Kept); repeat (first | assumption | exact Below.refl _ _ | exact below_undrew (Below.refl _ _) | exact Below.mono (by assumption) (by first | (simp; done) | (simp; omega) | omega) | refine below_setRow ?_ (by first | (simp; done) | (simp; omega) | omega) _ | refine Below.setCell ?_ (by first | (simp; done) | (simp; omega) | omega) _ | refine Below.alloc ?_ (by first | (simp; done) | (simp; omega) | omega) _ | refine below_drewN ?_ _ | refine Below.drew ?_ | refine below_undrew ?_ | refine below_step ?_ (by assumption))) (Nat.le_refl _) hg2 (by simp; omega)
            have hkn2 : KeepNot 5 wr w2 := (KeepNot.of (by (try unfold Kept); repeat (first | assumption | exact Below.refl _ _ | exact below_undrew (Below.refl _ _) | exact Below.mono (by assumption) (by first | (simp; done) | (simp; omega) | omega) | refine below_setRow ?_ (by first | (simp; done) | (simp; omega) | omega) _ | refine Below.setCell ?_ (by first | (simp; done) | (simp; omega) | omega) _ | refine Below.alloc ?_ (by first | (simp; done) | (simp; omega) | omega) _ | refine below_drewN ?_ _ | refine Below.drew ?_ | refine below_undrew ?_ | refine below_step ?_ (by assumption)))).trans (KeepNot.grown hl1 hg2)
            repeat (first | (refine tree_skip rfl (by rfl) ?_; simp only [Act.put, List.setIfInBounds_toArray, List.set]) | (refine tree_quiet (v := ?_) rfl rfl (by rfl) ?_ ?_; rotate_left; (intro W hW; go_simp); (try with_reducible rfl); simp only [Act.put, List.setIfInBounds_toArray, List.set]))
            have r2 := hblk2.rule
            have f2 := hblk2.free
            refine tree_store rfl rfl (by rfl) (fun K hK => ?_)
            go_wp2_with fail
            refine tree_done ?_
            go_wp2_with fail
            go_roundg (gk - 1)
            case measure => omega
            case rel =>
              refine ⟨i + 1, by omega, by go_num, ⟨⟨a2, n1 + 1, c2, hblk2.set 0 _, ?_, ?_⟩, hlow, hbel2.setCell hlow _⟩, (hki.trans (Keep2.of hkn2)).trans (Keep2.setCell _ 0 _)⟩
              · rw [be8_take n i hi8, ← List.append_assoc, List.map_append]
                have := hown2.setCell_apart hblk2 (by decide) 0 (.slice a2 (n1 + 1) c2)
                rw [HVB.out] at this
                exact this
              · rw [be8_take n i hi8, ← List.append_assoc, List.length_append, HLN.out]; rfl
          · have u0 : decide ((i : Int) < 8) = false := by simp; omega
            have hi8' : i = 8 := by omega
            go_wp2_with fail
            have hwi' : WriterAt wr w0 wb (bs ++ (its.take (j + 1)).flatMap Item.enc) := by
              have e : (be8 n).take i = be8 n := List.take_of_length_le (by rw [be8_length]; omega)
              rw [e] at hwi
              rw [HT.out, List.flatMap_append, ← List.append_assoc]
              simpa [Item.enc] using hwi
            have hg1 := HG.out
            go_roundg (gk_1 - 1)
            case measure => omega
            case rel => exact ⟨j + 1, by rw [HK.out]; omega, by go_num, hwi', hkj.trans hki⟩
      | truth b =>
        simp only [Item.val] at hc
        have s1 := asBI
        have s2 := asBS
        have s3 := asBB
        obtain ⟨⟨a1, n1, c1, hblk, hown, hln⟩, hlow, hbel⟩ := hwj
        have hn1 : n1 ≤ 1000000000000 := by
          have := hln
          rw [List.length_append] at this
          omega
        have HLN := Lib.hid hln
        clear hln
        have hbz := hbel.size
        have r1 := hblk.rule
        cases b
        · have hl1 := hown.alloc (.cells #[.int .u8 0] 5)
          have g1 := hblk.alloc (.cells #[.int .u8 0] 5)
          go_wp2_with (at_builtin; refine wpList_append_row rfl _ _ 43 rfl bytesT' rfl hl1 rfl (RowAt.new' _ _ _ _ (by simp)) (by rfl) (by exact all_one _ rfl) (by unfold maxLen; omega) (by omega) (by simp; omega) ?_)
          intro a2 c2 w2 hown2 hg2
          have hblk2 := g1.keepNot (KeepNot.grown hl1 hg2) (by decide)
          have hbel2 : Below w0.heap.size w0 w2 := hl1.grown (by (try unfold Kept); repeat (first | assumption | exact Below.refl _ _ | exact below_undrew (Below.refl _ _) | exact Below.mono (by assumption) (by first | (simp; done) | (simp; omega) | omega) | refine below_setRow ?_ (by first | (simp; done) | (simp; omega) | omega) _ | refine Below.setCell ?_ (by first | (simp; done) | (simp; omega) | omega) _ | refine Below.alloc ?_ (by first | (simp; done) | (simp; omega) | omega) _ | refine below_drewN ?_ _ | refine Below.drew ?_ | refine below_undrew ?_ | refine below_step ?_ (by assumption))) (Nat.le_refl _) hg2 (by simp; omega)
          have hkn2 : KeepNot 5 wr w2 := (KeepNot.of (by (try unfold Kept); repeat (first | assumption | exact Below.refl _ _ | exact below_undrew (Below.refl _ _) | exact Below.mono (by assumption) (by first | (simp; done) | (simp; omega) | omega) | refine below_setRow ?_ (by first | (simp; done) | (simp; omega) | omega) _ | refine Below.setCell ?_ (by first | (simp; done) | (simp; omega) | omega) _ | refine Below.alloc ?_ (by first | (simp; done) | (simp; omega) | omega) _ | refine below_drewN ?_ _ | refine Below.drew ?_ | refine below_undrew ?_ | refine below_step ?_ (by assumption)))).trans (KeepNot.grown hl1 hg2)
          have r2 := hblk2.rule
          have f2 := hblk2.free
          clear r1
          go_wp2_with fail
          go_roundg (gk - 1)
          case measure => omega
          case rel =>
            refine ⟨j + 1, by rw [HK.out]; omega, by go_num, ⟨⟨a2, n1 + 1, c2, hblk2.set 0 _, ?_, ?_⟩, hlow, hbel2.setCell hlow _⟩, (hkj.trans (Keep2.of hkn2)).trans (Keep2.setCell _ 0 _)⟩
            · rw [HT.out, List.flatMap_append]
              have := hown2.setCell_apart hblk2 (by decide) 0 (.slice a2 (n1 + 1) c2)
              simpa [Item.enc, tr1, bv, U8] using this
            · rw [HT.out, List.flatMap_append, ← List.append_assoc, List.length_append, HLN.out]; rfl
        · have hl1 := hown.alloc (.cells #[.int .u8 1] 5)
          have g1 := hblk.alloc (.cells #[.int .u8 1] 5)
          go_wp2_with (at_builtin; refine wpList_append_row rfl _ _ 43 rfl bytesT' rfl hl1 rfl (RowAt.new' _ _ _ _ (by simp)) (by rfl) (by exact all_one _ rfl) (by unfold maxLen; omega) (by omega) (by simp; omega) ?_)
          intro a2 c2 w2 hown2 hg2
          have hblk2 := g1.keepNot (KeepNot.grown hl1 hg2) (by decide)
          have hbel2 : Below w0.heap.size w0 w2 := hl1.grown (by (try unfold Kept); repeat (first | assumption | exact Below.refl _ _ | exact below_undrew (Below.refl _ _) | exact Below.mono (by assumption) (by first | (simp; done) | (simp; omega) | omega) | refine below_setRow ?_ (by first | (simp; done) | (simp; omega) | omega) _ | refine Below.setCell ?_ (by first | (simp; done) | (simp; omega) | omega) _ | refine Below.alloc ?_ (by first | (simp; done) | (simp; omega) | omega) _ | refine below_drewN ?_ _ | refine Below.drew ?_ | refine below_undrew ?_ | refine below_step ?_ (by assumption))) (Nat.le_refl _) hg2 (by simp; omega)
          have hkn2 : KeepNot 5 wr w2 := (KeepNot.of (by (try unfold Kept); repeat (first | assumption | exact Below.refl _ _ | exact below_undrew (Below.refl _ _) | exact Below.mono (by assumption) (by first | (simp; done) | (simp; omega) | omega) | refine below_setRow ?_ (by first | (simp; done) | (simp; omega) | omega) _ | refine Below.setCell ?_ (by first | (simp; done) | (simp; omega) | omega) _ | refine Below.alloc ?_ (by first | (simp; done) | (simp; omega) | omega) _ | refine below_drewN ?_ _ | refine Below.drew ?_ | refine below_undrew ?_ | refine below_step ?_ (by assumption)))).trans (KeepNot.grown hl1 hg2)
          have r2 := hblk2.rule
          have f2 := hblk2.free
          clear r1
          go_wp2_with fail
          go_roundg (gk - 1)
          case measure => omega
          case rel =>
            refine ⟨j + 1, by rw [HK.out]; omega, by go_num, ⟨⟨a2, n1 + 1, c2, hblk2.set 0 _, ?_, ?_⟩, hlow, hbel2.setCell hlow _⟩, (hkj.trans (Keep2.of hkn2)).trans (Keep2.setCell _ 0 _)⟩
            · rw [HT.out, List.flatMap_append]
              have := hown2.setCell_apart hblk2 (by decide) 0 (.slice a2 (n1 + 1) c2)
              simpa [Item.enc, tr1, bv, U8] using this
            · rw [HT.out, List.flatMap_append, ← List.append_assoc, List.length_append, HLN.out]; rfl
      | _ => exact hf.elim
    · have t0 : decide ((j : Int) < (k : Int)) = false := by simp; omega
      have hjk : j = k := by omega
      have e : its.take j = its := List.take_of_length_le (by rw [HK.out]; omega)
      rw [e] at hwj
      go_wp2_with fail
      go_end0
      exact ⟨rfl, hwj, hkj⟩
-- ANY
def Item.Ok (w0 : World) : Item → Prop
  | .num n => wf64 n
  | .small n => wf8 n
  | .truth _ => True
  | .ints s l => Ints w0 s l
  | .things s l => Things w0 s l
theorem WriterAt.old {w w' w0 : World} {wb : Nat} {bs : List UInt8} (h : WriterAt w w0 wb bs) (hb : Below w.heap.size w w') : WriterAt w' w0 wb bs := by
  obtain ⟨⟨a, n, c, h1, h2, h3⟩, h4, h5⟩ := h
  exact ⟨⟨a, n, c, h1.old hb, h2.old hb, h3⟩, h4, h5.trans (hb.mono h5.size)⟩
theorem enc_num (n : Int) : ([Item.num n].flatMap Item.enc).length = 8 := by simp [Item.enc, be8_length]
theorem enc_th (u : ThingL) : [Item.num u.id, .num u.card, .num u.harm, .truth u.tired].flatMap Item.enc = thingB u := by simp [Item.enc, thingB]
def ThRel (w w0 : World) (wb : Nat) (bs : List UInt8) (l : List ThingL) (f : Nat) (i : Value) (w' : World) : Prop :=
  ∃ k : Nat, k + f = l.length ∧ i = .int .i64 (k : Int) ∧ WriterAt w' w0 wb (bs ++ (l.take k).flatMap thingB) ∧ Keep2 5 wb w w'
def ListRel (w w0 : World) (wb : Nat) (bs : List UInt8) (l : List Int) (f : Nat) (i : Value) (w' : World) : Prop :=
  ∃ k : Nat, k + f = l.length ∧ i = .int .i64 (k : Int) ∧ WriterAt w' w0 wb (bs ++ (l.take k).flatMap be8) ∧ Keep2 5 wb w w'
set_option maxRecDepth 100000 in
set_option maxHeartbeats 4000000 in
theorem put_any (wb q k : Nat) (bs : List UInt8) (its : List Item) (w0 w : World) (hw : WriterAt w w0 wb bs) (hq : Blk w q (its.map Item.val).toArray 20) (hk : its.length = k) (hfl : ∀ x ∈ its, x.Ok w0) (hsz : bs.length + (its.flatMap Item.enc).length ≤ 1000000000000) :
    Calls Try.prog 30 #[.pointer (some ⟨wb, 0, none⟩), .slice (some ⟨q, 0, none⟩) k k] w fun e w' => e = .returned (.tuple #[]) ∧ WriterAt w' w0 wb (bs ++ its.flatMap Item.enc) ∧ Keep2 5 wb w w' := by
  have HK := Lib.hid hk
  clear hk
  have hqw : q ≠ wb := by obtain ⟨a, n, c, hb, _⟩ := hw.blk; exact hq.ne hb (by decide)
  go_enter Try.func30, Try.ntmps30
  go_wp2_with fail
  go_loopg [19] k (PutRel w w0 wb bs its)
  case atStart => exact ⟨0, by rw [HK.out]; omega, rfl, by simpa using hw, Keep2.refl _⟩
  case round =>
    obtain ⟨j, hj, rfl, hwj, hkj⟩ := hrel
    rw [HK.out] at hj
    have hqj := hq.keep2 hkj (by decide) hqw
    have hkb : k ≤ 1000000000000 := by have := enc_count its fun x _ => enc_pos x; rw [HK.out] at this; omega
    by_cases hlt : j < k
    · have t0 : decide ((j : Int) < (k : Int)) = true := by simp; omega
      have hjl : j < its.length := by rw [HK.out]; exact hlt
      have hc : wr.cell? ⟨q, j, none⟩ = some its[j].val := by rw [hqj.rule]; simp [hjl]
      have hf := hfl its[j] (List.getElem_mem hjl)
      have HT := Lib.hid (List.take_succ_eq_append_getElem hjl)
      have hbnd := enc_bound its j hjl
      generalize its[j] = x at *
      cases x with
      | num n =>
        simp only [Item.val] at hc
        have s1 := asII
        go_wp2_with fail
        obtain ⟨wo, rfl⟩ : ∃ wo : World, wo = wr := ⟨_, rfl⟩
        obtain ⟨gk_1, hgk1⟩ : ∃ g : Nat, g = gk := ⟨_, rfl⟩
        have HG := Lib.hid hgk1
        clear hgk1
        go_loopg [27] 8 (NumRel wo w0 wb (bs ++ (its.take j).flatMap Item.enc) n)
        case atStart => exact ⟨0, rfl, rfl, by simpa using hwj, Keep2.refl _⟩
        case round =>
          obtain ⟨i, hi, rfl, hwi, hki⟩ := hrel
          by_cases hi8 : i < 8
          · have u0 : decide ((i : Int) < 8) = true := by simp; omega
            obtain ⟨⟨a1, n1, c1, hblk, hown, hln⟩, hlow, hbel⟩ := hwi
            have hn1 : n1 ≤ 1000000000000 := by
              have := hln
              rw [List.length_append, List.length_append, List.length_take, be8_length] at this
              have h8 : (Item.num n).enc.length = 8 := be8_length n
              omega
            have HLN := Lib.hid hln
            clear hln
            have hbz := hbel.size
            have v1 : IntKind.i64.wrap (8 * (i : Int)) = 8 * (i : Int) := IntWalk.i64_in _ (by omega)
            have v2 : IntKind.i64.wrap (56 - 8 * (i : Int)) = 56 - 8 * (i : Int) := IntWalk.i64_in _ (by omega)
            have v3 : (0 : Int) ≤ 56 - 8 * (i : Int) := by omega
            have v4 : (56 - 8 * (i : Int)).toNat = 56 - 8 * i := by omega
            go_wp2_with fail
            have r0 := fun W (hW : KeepNot 5 wr.drew W) => (hblk.drew.keepNot hW (by decide)).rule
            refine wp_region_treeN 5 (.step 0 (.step 1 (.step 2 (.step 3 (.step 4 (.step 5 (.step 6 (.step 7 (.step 8 (.step 9 (.step 10 (.step 11 (.step 12 (.step 13 (.step 14 (.step 15 (.step 16 .done))))))))))))))))) (by kernel_rfl) (by kernel_rfl) (fun c a d v w h => by cases d <;> exact h) ?_
            repeat (first | (refine tree_skip rfl (by rfl) ?_; simp only [Act.put, List.setIfInBounds_toArray, List.set]) | (refine tree_quiet (v := ?_) rfl rfl (by rfl) ?_ ?_; rotate_left; (intro W hW; go_simp); (try with_reducible rfl); simp only [Act.put, List.setIfInBounds_toArray, List.set]))
            have vb : IntKind.u64.wrap n / 2 ^ (56 - 8 * i) % 256 = U8 ⟨((BitVec.ofInt 64 n) >>> (56 - 8 * i)).setWidth 8⟩ := be8_byte n (56 - 8 * i)
            have HVB := Lib.hid vb
            clear vb v1 v2 v3 v4
            have hl1 := hown.drew.alloc (.cells #[.int .u8 (IntKind.u8.wrap (IntKind.u64.wrap n / 2 ^ (56 - 8 * i)))] 5)
            refine tree_loud rfl rfl (by rfl) (fun K hK => ?_); go_wp2_with fail
            refine hK _ _ (KeepNot.of (by (try unfold Kept); repeat (first | assumption | exact Below.refl _ _ | exact below_undrew (Below.refl _ _) | exact Below.mono (by assumption) (by first | (simp; done) | (simp; omega) | omega) | refine below_setRow ?_ (by first | (simp; done) | (simp; omega) | omega) _ | refine Below.setCell ?_ (by first | (simp; done) | (simp; omega) | omega) _ | refine Below.alloc ?_ (by first | (simp; done) | (simp; omega) | omega) _ | refine below_drewN ?_ _ | refine Below.drew ?_ | refine below_undrew ?_ | refine below_step ?_ (by assumption)))) ?_
            clear hK K
            refine tree_loud rfl rfl (by rfl) (fun K hK => ?_)
            refine wp_append_row (.tmp 34) (.tmp 42) 43 rfl bytesT' rfl hl1 rfl (RowAt.new' _ _ _ _ (by simp)) (by rfl) (by exact all_one _ rfl) (by unfold maxLen; omega) (by omega) (by have := hbel.size; simp; omega) ?_
            intro a2 c2 w2 hown2 hg2
            refine hK _ _ (KeepNot.grown hl1 hg2) ?_
            clear hK K
            have hblk2 := (hblk.drew.alloc (.cells #[.int .u8 (IntKind.u8.wrap (IntKind.u64.wrap n / 2 ^ (56 - 8 * i)))] 5)).keepNot (KeepNot.grown hl1 hg2) (by decide)
            have hbel2 : Below w0.heap.size w0 w2 := hl1.grown (by (try unfold Kept); repeat (first | assumption | exact Below.refl _ _ | exact below_undrew (Below.refl _ _) | exact Below.mono (by assumption) (by first | (simp; done) | (simp; omega) | omega) | refine below_setRow ?_ (by first | (simp; done) | (simp; omega) | omega) _ | refine Below.setCell ?_ (by first | (simp; done) | (simp; omega) | omega) _ | refine Below.alloc ?_ (by first | (simp; done) | (simp; omega) | omega) _ | refine below_drewN ?_ _ | refine Below.drew ?_ | refine below_undrew ?_ | refine below_step ?_ (by assumption))) (Nat.le_refl _) hg2 (by simp; omega)
            have hkn2 : KeepNot 5 wr w2 := (KeepNot.of (by (try unfold Kept); repeat (first | assumption | exact Below.refl _ _ | exact below_undrew (Below.refl _ _) | exact Below.mono (by assumption) (by first | (simp; done) | (simp; omega) | omega) | refine below_setRow ?_ (by first | (simp; done) | (simp; omega) | omega) _ | refine Below.setCell ?_ (by first | (simp; done) | (simp; omega) | omega) _ | refine Below.alloc ?_ (by first | (simp; done) | (simp; omega) | omega) _ | refine below_drewN ?_ _ | refine Below.drew ?_ | refine below_undrew ?_ | refine below_step ?_ (by assumption)))).trans (KeepNot.grown hl1 hg2)
            repeat (first | (refine tree_skip rfl (by rfl) ?_; simp only [Act.put, List.setIfInBounds_toArray, List.set]) | (refine tree_quiet (v := ?_) rfl rfl (by rfl) ?_ ?_; rotate_left; (intro W hW; go_simp); (try with_reducible rfl); simp only [Act.put, List.setIfInBounds_toArray, List.set]))
            have r2 := hblk2.rule
            have f2 := hblk2.free
            refine tree_store rfl rfl (by rfl) (fun K hK => ?_)
            go_wp2_with fail
            refine tree_done ?_
            go_wp2_with fail
            go_roundg (gk - 1)
            case measure => omega
            case rel =>
              refine ⟨i + 1, by omega, by go_num, ⟨⟨a2, n1 + 1, c2, hblk2.set 0 _, ?_, ?_⟩, hlow, hbel2.setCell hlow _⟩, (hki.trans (Keep2.of hkn2)).trans (Keep2.setCell _ 0 _)⟩
              · rw [be8_take n i hi8, ← List.append_assoc, List.map_append]
                have := hown2.setCell_apart hblk2 (by decide) 0 (.slice a2 (n1 + 1) c2)
                rw [HVB.out] at this
                exact this
              · rw [be8_take n i hi8, ← List.append_assoc, List.length_append, HLN.out]; rfl
          · have u0 : decide ((i : Int) < 8) = false := by simp; omega
            have hi8' : i = 8 := by omega
            go_wp2_with fail
            have hwi' : WriterAt wr w0 wb (bs ++ (its.take (j + 1)).flatMap Item.enc) := by
              have e : (be8 n).take i = be8 n := List.take_of_length_le (by rw [be8_length]; omega)
              rw [e] at hwi
              rw [HT.out, List.flatMap_append, ← List.append_assoc]
              simpa [Item.enc] using hwi
            have hg1 := HG.out
            go_roundg (gk_1 - 1)
            case measure => omega
            case rel => exact ⟨j + 1, by rw [HK.out]; omega, by go_num, hwi', hkj.trans hki⟩
      | truth b =>
        simp only [Item.val] at hc
        have s1 := asBI
        have s2 := asBS
        have s3 := asBB
        obtain ⟨⟨a1, n1, c1, hblk, hown, hln⟩, hlow, hbel⟩ := hwj
        have hn1 : n1 ≤ 1000000000000 := by
          have := hln
          rw [List.length_append] at this
          omega
        have HLN := Lib.hid hln
        clear hln
        have hbz := hbel.size
        have r1 := hblk.rule
        cases b
        · have hl1 := hown.alloc (.cells #[.int .u8 0] 5)
          have g1 := hblk.alloc (.cells #[.int .u8 0] 5)
          go_wp2_with (at_builtin; refine wpList_append_row rfl _ _ 43 rfl bytesT' rfl hl1 rfl (RowAt.new' _ _ _ _ (by simp)) (by rfl) (by exact all_one _ rfl) (by unfold maxLen; omega) (by omega) (by simp; omega) ?_)
          intro a2 c2 w2 hown2 hg2
          have hblk2 := g1.keepNot (KeepNot.grown hl1 hg2) (by decide)
          have hbel2 : Below w0.heap.size w0 w2 := hl1.grown (by (try unfold Kept); repeat (first | assumption | exact Below.refl _ _ | exact below_undrew (Below.refl _ _) | exact Below.mono (by assumption) (by first | (simp; done) | (simp; omega) | omega) | refine below_setRow ?_ (by first | (simp; done) | (simp; omega) | omega) _ | refine Below.setCell ?_ (by first | (simp; done) | (simp; omega) | omega) _ | refine Below.alloc ?_ (by first | (simp; done) | (simp; omega) | omega) _ | refine below_drewN ?_ _ | refine Below.drew ?_ | refine below_undrew ?_ | refine below_step ?_ (by assumption))) (Nat.le_refl _) hg2 (by simp; omega)
          have hkn2 : KeepNot 5 wr w2 := (KeepNot.of (by (try unfold Kept); repeat (first | assumption | exact Below.refl _ _ | exact below_undrew (Below.refl _ _) | exact Below.mono (by assumption) (by first | (simp; done) | (simp; omega) | omega) | refine below_setRow ?_ (by first | (simp; done) | (simp; omega) | omega) _ | refine Below.setCell ?_ (by first | (simp; done) | (simp; omega) | omega) _ | refine Below.alloc ?_ (by first | (simp; done) | (simp; omega) | omega) _ | refine below_drewN ?_ _ | refine Below.drew ?_ | refine below_undrew ?_ | refine below_step ?_ (by assumption)))).trans (KeepNot.grown hl1 hg2)
          have r2 := hblk2.rule
          have f2 := hblk2.free
          clear r1
          go_wp2_with fail
          go_roundg (gk - 1)
          case measure => omega
          case rel =>
            refine ⟨j + 1, by rw [HK.out]; omega, by go_num, ⟨⟨a2, n1 + 1, c2, hblk2.set 0 _, ?_, ?_⟩, hlow, hbel2.setCell hlow _⟩, (hkj.trans (Keep2.of hkn2)).trans (Keep2.setCell _ 0 _)⟩
            · rw [HT.out, List.flatMap_append]
              have := hown2.setCell_apart hblk2 (by decide) 0 (.slice a2 (n1 + 1) c2)
              simpa [Item.enc, tr1, bv, U8] using this
            · rw [HT.out, List.flatMap_append, ← List.append_assoc, List.length_append, HLN.out]; rfl
        · have hl1 := hown.alloc (.cells #[.int .u8 1] 5)
          have g1 := hblk.alloc (.cells #[.int .u8 1] 5)
          go_wp2_with (at_builtin; refine wpList_append_row rfl _ _ 43 rfl bytesT' rfl hl1 rfl (RowAt.new' _ _ _ _ (by simp)) (by rfl) (by exact all_one _ rfl) (by unfold maxLen; omega) (by omega) (by simp; omega) ?_)
          intro a2 c2 w2 hown2 hg2
          have hblk2 := g1.keepNot (KeepNot.grown hl1 hg2) (by decide)
          have hbel2 : Below w0.heap.size w0 w2 := hl1.grown (by (try unfold Kept); repeat (first | assumption | exact Below.refl _ _ | exact below_undrew (Below.refl _ _) | exact Below.mono (by assumption) (by first | (simp; done) | (simp; omega) | omega) | refine below_setRow ?_ (by first | (simp; done) | (simp; omega) | omega) _ | refine Below.setCell ?_ (by first | (simp; done) | (simp; omega) | omega) _ | refine Below.alloc ?_ (by first | (simp; done) | (simp; omega) | omega) _ | refine below_drewN ?_ _ | refine Below.drew ?_ | refine below_undrew ?_ | refine below_step ?_ (by assumption))) (Nat.le_refl _) hg2 (by simp; omega)
          have hkn2 : KeepNot 5 wr w2 := (KeepNot.of (by (try unfold Kept); repeat (first | assumption | exact Below.refl _ _ | exact below_undrew (Below.refl _ _) | exact Below.mono (by assumption) (by first | (simp; done) | (simp; omega) | omega) | refine below_setRow ?_ (by first | (simp; done) | (simp; omega) | omega) _ | refine Below.setCell ?_ (by first | (simp; done) | (simp; omega) | omega) _ | refine Below.alloc ?_ (by first | (simp; done) | (simp; omega) | omega) _ | refine below_drewN ?_ _ | refine Below.drew ?_ | refine below_undrew ?_ | refine below_step ?_ (by assumption)))).trans (KeepNot.grown hl1 hg2)
          have r2 := hblk2.rule
          have f2 := hblk2.free
          clear r1
          go_wp2_with fail
          go_roundg (gk - 1)
          case measure => omega
          case rel =>
            refine ⟨j + 1, by rw [HK.out]; omega, by go_num, ⟨⟨a2, n1 + 1, c2, hblk2.set 0 _, ?_, ?_⟩, hlow, hbel2.setCell hlow _⟩, (hkj.trans (Keep2.of hkn2)).trans (Keep2.setCell _ 0 _)⟩
            · rw [HT.out, List.flatMap_append]
              have := hown2.setCell_apart hblk2 (by decide) 0 (.slice a2 (n1 + 1) c2)
              simpa [Item.enc, tr1, bv, U8] using this
            · rw [HT.out, List.flatMap_append, ← List.append_assoc, List.length_append, HLN.out]; rfl
      | small n =>
        simp only [Item.val] at hc
        have s1 := asSI
        have s2 := asSS
        have hb8 : -128 ≤ n ∧ n ≤ 127 := by
          have hf : (Lit.int .i8 n).wf = true := hf
          simp [Lit.wf, IntKind.min, IntKind.max, IntKind.signed, IntKind.bits] at hf
          omega
        have hb8a := hb8.1
        have hb8b := hb8.2
        have h64 : wf64 n := by
          simp only [wf64, Lit.wf, IntKind.min, IntKind.max, IntKind.signed, IntKind.bits]
          simp
          omega
        have h8 : (Item.small n).enc.length = 8 := be8_length n
        clear hb8
        go_wp2_with fail
        refine (put_flat wb _ 1 _ [.num n] w0 _ (hwj.old (by (try unfold Kept); repeat (first | assumption | exact Below.refl _ _ | exact below_undrew (Below.refl _ _) | exact Below.mono (by assumption) (by first | (simp; done) | (simp; omega) | omega) | refine below_setRow ?_ (by first | (simp; done) | (simp; omega) | omega) _ | refine Below.setCell ?_ (by first | (simp; done) | (simp; omega) | omega) _ | refine Below.alloc ?_ (by first | (simp; done) | (simp; omega) | omega) _ | refine below_drewN ?_ _ | refine Below.drew ?_ | refine below_undrew ?_ | refine below_step ?_ (by assumption)))) (Blk.new _ _ _) rfl (by intro x hx; rw [List.mem_singleton.1 hx]; exact h64) (by rw [List.length_append, enc_num]; omega)).mono ?_
        rintro e w2 ⟨rfl, hw2, hk2⟩
        go_wp2_with fail
        go_roundg (gk - 1)
        case measure => omega
        case rel => exact ⟨j + 1, by rw [HK.out]; omega, by go_num, by rw [HT.out, List.flatMap_append, ← List.append_assoc]; simpa [Item.enc] using hw2, (hkj.trans (Keep2.of (KeepNot.of (by (try unfold Kept); repeat (first | assumption | exact Below.refl _ _ | exact below_undrew (Below.refl _ _) | exact Below.mono (by assumption) (by first | (simp; done) | (simp; omega) | omega) | refine below_setRow ?_ (by first | (simp; done) | (simp; omega) | omega) _ | refine Below.setCell ?_ (by first | (simp; done) | (simp; omega) | omega) _ | refine Below.alloc ?_ (by first | (simp; done) | (simp; omega) | omega) _ | refine below_drewN ?_ _ | refine Below.drew ?_ | refine below_undrew ?_ | refine below_step ?_ (by assumption)))))).trans hk2⟩
      | ints sl l =>
        obtain ⟨sa, sn, sc⟩ := sl
        simp only [Item.val] at hc
        have s1 := asLI
        have s2 := asLS
        have s3 := asLB
        have s4 := asLL
        have hr : IntRow w0 sa sn sc l := hf
        have HLL := Lib.hid hr.2.1
        have hsn : sn ≤ 17592186044000 := hr.2.2.2.2.1
        have hen : (Item.ints ⟨sa, sn, sc⟩ l).enc = be8 l.length ++ l.flatMap be8 := rfl
        have hfl8 : ∀ m : List Int, (m.flatMap be8).length = m.length * 8 := fun m => by
          induction m with
          | nil => rfl
          | cons y m ih => rw [List.flatMap_cons, List.length_append, ih, be8_length, List.length_cons]; omega
        rw [hen, List.length_append, be8_length, hfl8, HLL.out] at hbnd
        have hlw : wf64 (l.length : Int) := wf_len (s := ⟨sa, sn, sc⟩) hr
        rw [HLL.out] at hlw
        have HEN := Lib.hid hen
        clear hen
        go_wp2_with fail
        refine (put_flat wb _ 1 _ [.num sn] w0 _ (hwj.old (by (try unfold Kept); repeat (first | assumption | exact Below.refl _ _ | exact below_undrew (Below.refl _ _) | exact Below.mono (by assumption) (by first | (simp; done) | (simp; omega) | omega) | refine below_setRow ?_ (by first | (simp; done) | (simp; omega) | omega) _ | refine Below.setCell ?_ (by first | (simp; done) | (simp; omega) | omega) _ | refine Below.alloc ?_ (by first | (simp; done) | (simp; omega) | omega) _ | refine below_drewN ?_ _ | refine Below.drew ?_ | refine below_undrew ?_ | refine below_step ?_ (by assumption)))) (Blk.new _ _ _) rfl (by intro x hx; rw [List.mem_singleton.1 hx]; exact hlw) (by rw [List.length_append, enc_num]; omega)).mono ?_
        rintro e w2 ⟨rfl, hw2, hk2⟩
        have hkr2 : Keep2 5 wb wr w2 := (Keep2.of (KeepNot.of (by (try unfold Kept); repeat (first | assumption | exact Below.refl _ _ | exact below_undrew (Below.refl _ _) | exact Below.mono (by assumption) (by first | (simp; done) | (simp; omega) | omega) | refine below_setRow ?_ (by first | (simp; done) | (simp; omega) | omega) _ | refine Below.setCell ?_ (by first | (simp; done) | (simp; omega) | omega) _ | refine Below.alloc ?_ (by first | (simp; done) | (simp; omega) | omega) _ | refine below_drewN ?_ _ | refine Below.drew ?_ | refine below_undrew ?_ | refine below_step ?_ (by assumption))))).trans hk2
        go_wp2_with fail
        obtain ⟨gk_1, hgk1⟩ : ∃ g : Nat, g = gk := ⟨_, rfl⟩
        have HG := Lib.hid hgk1
        clear hgk1
        go_loopg [81] sn (ListRel w2 w0 wb (bs ++ (its.take j).flatMap Item.enc ++ be8 sn) l)
        case atStart => exact ⟨0, by rw [HLL.out]; omega, rfl, by simpa [Item.enc] using hw2, Keep2.refl _⟩
        case round =>
          obtain ⟨i, hi, rfl, hwi, hki⟩ := hrel
          rw [HLL.out] at hi
          by_cases hin : i < sn
          · have u0 : decide ((i : Int) < (sn : Int)) = true := by simp; omega
            have hil : i < l.length := by rw [HLL.out]; exact hin
            obtain ⟨b, o, rfl, hc2⟩ := hr.cell i hil
            have hcw : wr.cell? ⟨b, o + i, none⟩ = some (.int .i64 l[i]) := by rw [hwi.below.cell (World.block_lt_of_cell? w0 _ hc2)]; exact hc2
            have HT2 := Lib.hid (List.take_succ_eq_append_getElem hil)
            have hx64 : wf64 l[i] := hr.2.2.2.2.2 _ (List.getElem_mem hil)
            clear hc2
            generalize l[i] = y at *
            have hlt2 := List.length_take (i := i) (l := l)
            rw [HLL.out] at hlt2
            have hlt3 : (l.take i).length = i := by rw [hlt2]; omega
            have HT3 := Lib.hid hlt3
            clear hlt2 hlt3
            go_wp2_with fail
            refine (put_flat wb _ 1 _ [.num y] w0 _ (hwi.old (by (try unfold Kept); repeat (first | assumption | exact Below.refl _ _ | exact below_undrew (Below.refl _ _) | exact Below.mono (by assumption) (by first | (simp; done) | (simp; omega) | omega) | refine below_setRow ?_ (by first | (simp; done) | (simp; omega) | omega) _ | refine Below.setCell ?_ (by first | (simp; done) | (simp; omega) | omega) _ | refine Below.alloc ?_ (by first | (simp; done) | (simp; omega) | omega) _ | refine below_drewN ?_ _ | refine Below.drew ?_ | refine below_undrew ?_ | refine below_step ?_ (by assumption)))) (Blk.new _ _ _) rfl (by intro x hx; rw [List.mem_singleton.1 hx]; exact hx64) (by rw [List.length_append, List.length_append, List.length_append, be8_length, hfl8, HT3.out, enc_num]; omega)).mono ?_
            rintro e w3 ⟨rfl, hw3, hk3⟩
            go_wp2_with fail
            go_roundg (gk - 1)
            case measure => omega
            case rel => exact ⟨i + 1, by rw [HLL.out]; omega, by go_num, by rw [HT2.out, List.flatMap_append, ← List.append_assoc]; simpa [Item.enc] using hw3, (hki.trans (Keep2.of (KeepNot.of (by (try unfold Kept); repeat (first | assumption | exact Below.refl _ _ | exact below_undrew (Below.refl _ _) | exact Below.mono (by assumption) (by first | (simp; done) | (simp; omega) | omega) | refine below_setRow ?_ (by first | (simp; done) | (simp; omega) | omega) _ | refine Below.setCell ?_ (by first | (simp; done) | (simp; omega) | omega) _ | refine Below.alloc ?_ (by first | (simp; done) | (simp; omega) | omega) _ | refine below_drewN ?_ _ | refine Below.drew ?_ | refine below_undrew ?_ | refine below_step ?_ (by assumption)))))).trans hk3⟩
          · have u0 : decide ((i : Int) < (sn : Int)) = false := by simp; omega
            have e : l.take i = l := List.take_of_length_le (by rw [HLL.out]; omega)
            rw [e] at hwi
            have hwi' : WriterAt wr w0 wb (bs ++ (its.take (j + 1)).flatMap Item.enc) := by
              rw [HT.out, List.flatMap_append, ← List.append_assoc, List.flatMap_cons, List.flatMap_nil, List.append_nil, HEN.out, HLL.out, ← List.append_assoc]
              exact hwi
            have hg1 := HG.out
            go_wp2_with fail
            go_roundg (gk_1 - 1)
            case measure => omega
            case rel => exact ⟨j + 1, by rw [HK.out]; omega, by go_num, hwi', (hkj.trans hkr2).trans hki⟩
      | things sl l =>
        obtain ⟨sa, sn, sc⟩ := sl
        simp only [Item.val] at hc
        have s1 := asUI
        have s2 := asUS
        have s3 := asUB
        have s4 := asUL
        have s5 := asUU
        have hr : ThingRow w0 sa sn sc l := hf
        have HLL := Lib.hid hr.2.1
        have hsn : sn ≤ 4398046510976 := hr.2.2.2.2.1
        have hen : (Item.things ⟨sa, sn, sc⟩ l).enc = be8 l.length ++ l.flatMap thingB := rfl
        have hfl8 : ∀ m : List ThingL, (m.flatMap thingB).length = m.length * 25 := fun m => by
          induction m with
          | nil => rfl
          | cons y m ih => rw [List.flatMap_cons, List.length_append, ih, thingB_length, List.length_cons]; omega
        rw [hen, List.length_append, be8_length, hfl8, HLL.out] at hbnd
        have hlw : wf64 (sn : Int) := by
          simp only [wf64, Lit.wf, IntKind.min, IntKind.max, IntKind.signed, IntKind.bits]
          simp
          omega
        have HEN := Lib.hid hen
        clear hen
        go_wp2_with fail
        refine (put_flat wb _ 1 _ [.num sn] w0 _ (hwj.old (by (try unfold Kept); repeat (first | assumption | exact Below.refl _ _ | exact below_undrew (Below.refl _ _) | exact Below.mono (by assumption) (by first | (simp; done) | (simp; omega) | omega) | refine below_setRow ?_ (by first | (simp; done) | (simp; omega) | omega) _ | refine Below.setCell ?_ (by first | (simp; done) | (simp; omega) | omega) _ | refine Below.alloc ?_ (by first | (simp; done) | (simp; omega) | omega) _ | refine below_drewN ?_ _ | refine Below.drew ?_ | refine below_undrew ?_ | refine below_step ?_ (by assumption)))) (Blk.new _ _ _) rfl (by intro x hx; rw [List.mem_singleton.1 hx]; exact hlw) (by rw [List.length_append, enc_num]; omega)).mono ?_
        rintro e w2 ⟨rfl, hw2, hk2⟩
        have hkr2 : Keep2 5 wb wr w2 := (Keep2.of (KeepNot.of (by (try unfold Kept); repeat (first | assumption | exact Below.refl _ _ | exact below_undrew (Below.refl _ _) | exact Below.mono (by assumption) (by first | (simp; done) | (simp; omega) | omega) | refine below_setRow ?_ (by first | (simp; done) | (simp; omega) | omega) _ | refine Below.setCell ?_ (by first | (simp; done) | (simp; omega) | omega) _ | refine Below.alloc ?_ (by first | (simp; done) | (simp; omega) | omega) _ | refine below_drewN ?_ _ | refine Below.drew ?_ | refine below_undrew ?_ | refine below_step ?_ (by assumption))))).trans hk2
        go_wp2_with fail
        obtain ⟨gk_1, hgk1⟩ : ∃ g : Nat, g = gk := ⟨_, rfl⟩
        have HG := Lib.hid hgk1
        clear hgk1
        go_loopg [102] sn (ThRel w2 w0 wb (bs ++ (its.take j).flatMap Item.enc ++ be8 sn) l)
        case atStart => exact ⟨0, by rw [HLL.out]; omega, rfl, by simpa [Item.enc] using hw2, Keep2.refl _⟩
        case round =>
          obtain ⟨i, hi, rfl, hwi, hki⟩ := hrel
          rw [HLL.out] at hi
          by_cases hin : i < sn
          · have u0 : decide ((i : Int) < (sn : Int)) = true := by simp; omega
            have hil : i < l.length := by rw [HLL.out]; exact hin
            obtain ⟨b, o, rfl, hbl2, hc2⟩ := hr.elem i hil
            have HT2 := Lib.hid (List.take_succ_eq_append_getElem hil)
            have hxw := hr.2.2.2.2.2 _ (List.getElem_mem hil)
            generalize l[i] = y at *
            have hcw : ∀ m (hm : m < y.cells.length), wr.cell? ⟨b, o + i * 4 + m, none⟩ = some y.cells[m] := fun m hm => by rw [hwi.below.cell (show b < w0.heap.size from hbl2)]; exact hc2 m hm
            have HC := Lib.hid hcw
            clear hc2 hcw
            obtain ⟨id, card, harm, tired⟩ := y
            have hlt3 : (l.take i).length = i := by rw [List.length_take, HLL.out]; omega
            have HT3 := Lib.hid hlt3
            clear hlt3
            go_wp2_with (refine wpList_load_as rfl 69 thingT (.tmp 104) rfl rfl (v := .agg #[.int .i64 id, .int .i64 card, .int .i64 harm, .bool tired]) rfl HC.out rfl ?_)
            refine (put_flat wb _ 4 _ [.num id, .num card, .num harm, .truth tired] w0 _ (hwi.old (by (try unfold Kept); repeat (first | assumption | exact Below.refl _ _ | exact below_undrew (Below.refl _ _) | exact Below.mono (by assumption) (by first | (simp; done) | (simp; omega) | omega) | refine below_setRow ?_ (by first | (simp; done) | (simp; omega) | omega) _ | refine Below.setCell ?_ (by first | (simp; done) | (simp; omega) | omega) _ | refine Below.alloc ?_ (by first | (simp; done) | (simp; omega) | omega) _ | refine below_drewN ?_ _ | refine Below.drew ?_ | refine below_undrew ?_ | refine below_step ?_ (by assumption)))) (Blk.new2' _ _ _ _) rfl (by intro x hx; simp only [List.mem_cons, List.mem_nil_iff, or_false] at hx; rcases hx with rfl | rfl | rfl | rfl; exact hxw.1; exact hxw.2.1; exact hxw.2.2; trivial) (by rw [List.length_append, List.length_append, List.length_append, be8_length, hfl8, HT3.out, enc_th ⟨id, card, harm, tired⟩, thingB_length]; omega)).mono ?_
            rintro e w3 ⟨rfl, hw3, hk3⟩
            go_wp2_with fail
            go_roundg (gk - 1)
            case measure => omega
            case rel => exact ⟨i + 1, by rw [HLL.out]; omega, by go_num, by rw [HT2.out, List.flatMap_append, ← List.append_assoc, List.flatMap_cons, List.flatMap_nil, List.append_nil]; rw [enc_th ⟨id, card, harm, tired⟩] at hw3; exact hw3, (hki.trans (Keep2.of (KeepNot.of (by (try unfold Kept); repeat (first | assumption | exact Below.refl _ _ | exact below_undrew (Below.refl _ _) | exact Below.mono (by assumption) (by first | (simp; done) | (simp; omega) | omega) | refine below_setRow ?_ (by first | (simp; done) | (simp; omega) | omega) _ | refine Below.setCell ?_ (by first | (simp; done) | (simp; omega) | omega) _ | refine Below.alloc ?_ (by first | (simp; done) | (simp; omega) | omega) _ | refine below_drewN ?_ _ | refine Below.drew ?_ | refine below_undrew ?_ | refine below_step ?_ (by assumption)))))).trans hk3⟩
          · have u0 : decide ((i : Int) < (sn : Int)) = false := by simp; omega
            have e : l.take i = l := List.take_of_length_le (by rw [HLL.out]; omega)
            rw [e] at hwi
            have hwi' : WriterAt wr w0 wb (bs ++ (its.take (j + 1)).flatMap Item.enc) := by
              rw [HT.out, List.flatMap_append, ← List.append_assoc, List.flatMap_cons, List.flatMap_nil, List.append_nil, HEN.out, HLL.out, ← List.append_assoc]
              exact hwi
            have hg1 := HG.out
            go_wp2_with fail
            go_roundg (gk_1 - 1)
            case measure => omega
            case rel => exact ⟨j + 1, by rw [HK.out]; omega, by go_num, hwi', (hkj.trans hkr2).trans hki⟩
    · have t0 : decide ((j : Int) < (k : Int)) = false := by simp; omega
      have hjk : j = k := by omega
      have e : its.take j = its := List.take_of_length_le (by rw [HK.out]; omega)
      rw [e] at hwj
      go_wp2_with fail
      go_end0
      exact ⟨rfl, hwj, hkj⟩
end Go.Proofs.Ytiglljegpdlnmaa
