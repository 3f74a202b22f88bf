/- The walks through package disk: Append, Sync, Read, Cut, Make, Arm. -/
import Derived.Test.YtnojeiklgjhkgaaDiskApp
import Derived.Shelf.Abstract
namespace Go.Proofs.Ytnojeiklgjhkgaa
open Go.RowKit Go.Maps Go.Shelf
set_option linter.unusedVariables false
set_option linter.unusedSimpArgs false

theorem DStep.pre {B : Nat} {w0 w w' : World} {r r' : DiskR} (hb : Below w0.heap.size w0 w) (h : DStep B w r w' r') : DStep B w0 r w' r' :=
  ⟨(Turn.of_below hb).trans h.turn (fun _ hk => .inl hk), h.at', fun x hx => (h.foot' x hx).imp id fun hx => Nat.le_trans hb.size hx, h.d⟩
theorem DStep.post {B : Nat} {w w' w'' : World} {r r' : DiskR} (h : DStep B w r w' r') (hb : Below w'.heap.size w' w'') : DStep B w r w'' r' :=
  ⟨h.turn.trans (Turn.of_below (F := foot r) hb) (fun _ hk => .inl hk), h.at'.old hb, h.foot', h.d⟩
theorem DStep.quiet {B : Nat} {w w' : World} {r : DiskR} (h : DiskAt w B r) (hb : Below w.heap.size w w') : DStep B w r w' r := (DStep.refl h).post hb
theorem app_enter (args : Array Value) (w : World) : (callFunc 53 args).run Try.prog w = .ok (.enter 53 args) w := enters_of Try.func53 (by kernel_rfl) rfl args w
set_option maxHeartbeats 1000000 in
theorem append_any (w : World) (B : Nat) (r : DiskR) (nm : Name) (h : DiskAt w B r) (hB : B ≤ w.heap.size) (hs : nm.size ≤ maxLen) (a : Option Addr) (len cap : Nat) (l : List UInt8) (hl : BytesAt w a l) (hlen : l.length = len) (hcl : len ≤ maxLen) :
    Calls Try.prog 33 #[.pointer (some ⟨r.d, 0, none⟩), .string nm, .slice a len cap] w fun e w' => e = .returned (.int .i64 (appendP r.p nm l).2) ∧ ∃ r', r'.p = (appendP r.p nm l).1 ∧ DStep B w r w' r' := by
  have HL := Lib.hid hlen
  clear hlen
  have hmf : ∀ (fn : Fn) (first cap : Array Value) (w : World), (Instr.makeFunc fn first cap).run Try.prog w = .ok (.func fn first cap) w := fun _ _ _ _ => rfl
  have hb2 : Below w.heap.size w ((w.alloc (.cells #[.pointer (some ⟨r.d, 0, none⟩)] 43)).alloc (.cells #[.slice a len cap] 22)) := ((Below.refl _ _).alloc (Nat.le_refl _) _).alloc (by simp) _
  have h2 := h.old hb2
  go_enter Try.func33, Try.ntmps33
  go_wp2_with fail
  refine (may_any h2 hs 53 _ app_enter (AppRes B w r nm l) ?_ ?_ ?_).mono ?_
  · intro hdn
    have e : appendP r.p nm l = (r.p, 5) := by simp [appendP, mayP, DiskR.p, hdn]
    unfold AppRes
    rw [e]
    exact ⟨rfl, r, rfl, DStep.quiet h hb2⟩
  · intro hdn hno
    have e : appendP r.p nm l = (r.p, 4) := by unfold appendP mayP; rw [findP_no hno]; simp [DiskR.p, hdn]
    unfold AppRes
    rw [e]
    exact ⟨rfl, r, rfl, DStep.quiet h hb2⟩
  · intro f hf hn hdn
    subst hn
    refine (append1_any _ B r f h2 (Nat.le_trans hB hb2.size) hdn hf _ _ a len cap l (Blk.new2' _ _ _ _) (Blk.new2 _ _ _ _) (hl.below hb2) HL.out hcl).mono ?_
    rintro e w1 ⟨v, rfl, hv, r', hr', hs'⟩
    exact ⟨v, rfl, hv, r', hr', hs'.pre hb2⟩
  · rintro e w1 ⟨v, rfl, hv, r', hr', hs'⟩
    go_wp2_with fail
    go_ret
    refine ⟨?_, r', hr', hs'⟩
    rw [← hv]; rfl
def SyncRes (B : Nat) (w : World) (r : DiskR) (nm : Name) (v : Int) (w' : World) : Prop := v = (syncP r.p nm).2 ∧ ∃ r', r'.p = (syncP r.p nm).1 ∧ DStep B w r w' r'
theorem updR_same {fs : List FileR} {nm : Name} {g : FileR → FileR} : ((updR fs nm g).map entryR = (updR fs nm g).map entryR) := rfl
/-- The number of what is sure alone is written. -/
theorem sure_step {w : World} {B : Nat} {r : DiskR} {f : FileR} (h : DiskAt w B r) (hf : f ∈ r.fs) : DStep B w r (w.setCell ⟨f.blk, 1, none⟩ (.int .i64 (f.b.length : Int))) { r with fs := updR r.fs f.nm fun f => { f with sure := f.b.length } } := by
  have hfa := h.files f hf
  have hsame : ∀ g ∈ r.fs, g.nm = f.nm → g = f := fun g hg e => h.same hg hf e
  have hk : ∀ x, x ≠ f.blk → (w.setCell ⟨f.blk, 1, none⟩ (.int .i64 (f.b.length : Int))).heap[x]? = w.heap[x]? := fun x h1 => heap_setCell_other _ _ _ _ h1
  refine ⟨(Turn.refl _ _).setCell (.inl (.inr (.inr (.inl ⟨f, hf, .inl rfl⟩)))) _, ?_, ?_, rfl⟩
  · refine h.upd f.nm (fun f => { f with sure := f.b.length }) (fun _ _ => ⟨rfl, rfl⟩) (hk _ (Ne.symm (h.ne_file hf))) (hk _ (Ne.symm (h.ne_map hfa.blk))) (fun x hx => hk _ (h.ne_plan hx hfa.blk (by decide))) ?_ ?_ ?_ ?_
    · intro g hg hgn
      exact ⟨hk _ (Ne.symm (h.apart' hf hg (Ne.symm hgn)).1), fun x hx => hk _ (h.ne_row hg hx hfa.blk (by decide))⟩
    · intro g hg hgn
      obtain rfl := hsame g hg hgn
      exact ⟨hfa.blk.set 1 _, hfa.ge, hfa.row.setCell hfa.blk (by decide) 1 _⟩
    · intro g hg hgn g2 hg2 hgn2 x hx
      obtain rfl := hsame g hg hgn
      exact (h.apart' hf hg2 (Ne.symm hgn2)).2 x hx
    · have hp5 : DiskR.p { r with fs := updR r.fs f.nm fun f => { f with sure := f.b.length } } = updP r.p f.nm (fun f => { f with sure := f.b.length }) := by
        simp only [DiskR.p, updP]
        rw [updR_p _ _ _ (fun f => { f with sure := f.b.length }) (fun _ _ _ => rfl)]
      show DiskOk (DiskR.p { r with fs := updR r.fs f.nm fun f => { f with sure := f.b.length } })
      rw [hp5]
      exact h.ok.upd f.nm _ (fun _ _ => rfl) (fun g hg _ => Nat.le_refl _) (fun g hg _ => h.ok.size g hg)
  · rintro x (hx | hx | ⟨g, hg1, hx⟩ | hx)
    · exact .inl (.inl hx)
    · exact .inl (.inr (.inl hx))
    · obtain ⟨g0, hg0, ⟨e, rfl⟩ | ⟨e, rfl⟩⟩ := updR_mem hg1
      · exact .inl (.inr (.inr (.inl ⟨g0, hg0, hx⟩)))
      · exact .inl (.inr (.inr (.inl ⟨_, hg0, hx⟩)))
    · exact .inl (.inr (.inr (.inr hx)))
set_option maxHeartbeats 1000000 in
theorem sync1_any (w : World) (B : Nat) (r : DiskR) (f : FileR) (h : DiskAt w B r) (hB : B ≤ w.heap.size) (hdn : r.down = false) (hf : f ∈ r.fs) (bd : Nat)
    (hbd : Blk w bd #[.pointer (some ⟨r.d, 0, none⟩)] 43) :
    Calls Try.prog 55 #[.pointer (some ⟨f.blk, 0, none⟩), .pointer (some ⟨bd, 0, none⟩)] w fun e w' => ∃ v, e = .returned (.int .i64 v) ∧ SyncRes B w r f.nm v w' := by
  have HDN := Lib.hid hdn
  clear hdn
  have hfp := Lib.hid (findP_of h hf)
  have c0 := hbd.rule
  go_enter Try.func55, Try.ntmps55
  go_wp2_with fail
  refine (goes_any _ B _ h hB HDN.out).mono ?_
  rintro e w1 ⟨rfl, r1, hr1, hs1, hz1⟩
  clear c0
  have HE := Lib.hid (show syncP r.p f.nm = if (goesP r.p).2 = 0 then (updP (goesP r.p).1 f.nm fun f => { f with sure := f.b.length }, 0) else goesP r.p by
    unfold syncP mayP
    rw [hfp.out]
    simp [DiskR.p, HDN.out])
  by_cases hg : (goesP r.p).2 = 0
  · have hfs1 := hz1 hg
    have hf1 : f ∈ r1.fs := by rw [hfs1]; exact hf
    have hfa1 := hs1.at'.files f hf1
    have c1 := hfa1.blk.rule
    have c2 := hfa1.blk.free
    have HG := Lib.hid hg
    clear hz1
    go_wp2_with fail
    go_ret
    refine ⟨0, rfl, ?_⟩
    unfold SyncRes
    rw [HE.out, if_pos HG.out]
    have hst := sure_step hs1.at' hf1
    refine ⟨rfl, _, ?_, hs1.trans hst⟩
    rw [← hr1]
    simp only [DiskR.p, updP]
    rw [updR_p _ _ _ (fun f => { f with sure := f.b.length }) (fun _ _ _ => rfl)]
  · go_wp2_with fail
    go_ret
    refine ⟨_, rfl, ?_⟩
    unfold SyncRes
    rw [HE.out, if_neg hg]
    exact ⟨rfl, r1, hr1, hs1⟩
theorem sync_enter (args : Array Value) (w : World) : (callFunc 55 args).run Try.prog w = .ok (.enter 55 args) w := enters_of Try.func55 (by kernel_rfl) rfl args w
set_option maxHeartbeats 1000000 in
theorem sync_any (w : World) (B : Nat) (r : DiskR) (nm : Name) (h : DiskAt w B r) (hB : B ≤ w.heap.size) (hs : nm.size ≤ maxLen) :
    Calls Try.prog 34 #[.pointer (some ⟨r.d, 0, none⟩), .string nm] w fun e w' => e = .returned (.int .i64 (syncP r.p nm).2) ∧ ∃ r', r'.p = (syncP r.p nm).1 ∧ DStep B w r w' r' := by
  have hmf : ∀ (fn : Fn) (first cap : Array Value) (w : World), (Instr.makeFunc fn first cap).run Try.prog w = .ok (.func fn first cap) w := fun _ _ _ _ => rfl
  have hb2 : Below w.heap.size w (w.alloc (.cells #[.pointer (some ⟨r.d, 0, none⟩)] 43)) := (Below.refl _ _).alloc (Nat.le_refl _) _
  have h2 := h.old hb2
  go_enter Try.func34, Try.ntmps34
  go_wp2_with fail
  refine (may_any h2 hs 55 _ sync_enter (SyncRes B w r nm) ?_ ?_ ?_).mono ?_
  · intro hdn
    have e : syncP r.p nm = (r.p, 5) := by simp [syncP, mayP, DiskR.p, hdn]
    unfold SyncRes
    rw [e]
    exact ⟨rfl, r, rfl, DStep.quiet h hb2⟩
  · intro hdn hno
    have e : syncP r.p nm = (r.p, 4) := by unfold syncP mayP; rw [findP_no hno]; simp [DiskR.p, hdn]
    unfold SyncRes
    rw [e]
    exact ⟨rfl, r, rfl, DStep.quiet h hb2⟩
  · intro f hf hn hdn
    subst hn
    refine (sync1_any _ B r f h2 (Nat.le_trans hB hb2.size) hdn hf _ (Blk.new _ _ _)).mono ?_
    rintro e w1 ⟨v, rfl, hv, r', hr', hs'⟩
    exact ⟨v, rfl, hv, r', hr', hs'.pre hb2⟩
  · rintro e w1 ⟨v, rfl, hv, r', hr', hs'⟩
    go_wp2_with fail
    go_ret
    refine ⟨?_, r', hr', hs'⟩
    rw [← hv]; rfl
end Go.Proofs.Ytnojeiklgjhkgaa
