/-
  queue.Least, queue.Match and queue.Claim, each by its contract.
-/
import Derived.Test.YtbckobclicogiaaMt
import Derived.Test.YtbckobclicogiaaSl5
import Derived.Test.YtbckobclicogiaaIns
set_option linter.unusedVariables false
namespace Go.Proofs.Ytbckobclicogiaa
open Go.RowKit Go.Proofs.PosteMem

theorem below_claimed_of {b : Bool} (h : b = true) : (!b) = false := by rw [h]; rfl
def unclaimed (x : Msg) : Bool := !x.claimed
set_option maxHeartbeats 2000000 in
theorem least_any (w : World) (v : Value) (L : List Msg) (hv : VMsgs w v L) (hm : L.length ≤ 1000000) :
    Calls Try.prog 30 #[v] w fun e w' => e = .returned (.int .i64 (idxI unclaimed L)) ∧ Below w.heap.size w w' := by
  have eg := Go.Proofs.enters_of Try.func54 (by kernel_rfl) rfl
  have hcl : ∀ (W : World) (x : Msg), Below w.heap.size w W → Calls Try.prog 54 (#[.agg x.cells.toArray] ++ #[]) W fun e w' => e = .returned (.bool (unclaimed x)) ∧ Below w.heap.size w w' := by
    intro W x hb
    have hb2 := hb.alloc hb.size (.cells x.cells.toArray 34)
    unfold Msg.cells at hb2 ⊢
    unfold unclaimed
    clear hb
    go_enter Try.func54, Try.ntmps54
    go_wp2
    go_ret
    exact ⟨rfl, hb2⟩
  have hix := indexFunc_any unclaimed 54 #[] eg w v L hv hm hcl
  replace hix := Lib.hid hix
  clear hcl
  go_enter Try.func30, Try.ntmps30
  go_wp2_with (go_at_call 53; refine hix.out.mono ?_; rintro e w4 ⟨rfl, hb4⟩)
  go_ret
  exact ⟨rfl, hb4⟩

def mtch (corr : ByteArray) (x : Msg) : Bool := !x.claimed && x.corr.toList == corr.toList
set_option maxHeartbeats 2000000 in
theorem match_any (w : World) (v : Value) (L : List Msg) (corr : ByteArray) (hv : VMsgs w v L) (hm : L.length ≤ 1000000) :
    Calls Try.prog 31 #[v, .string corr] w fun e w' => e = .returned (.int .i64 (idxI (mtch corr) L)) ∧ Below w.heap.size w w' := by
  have eg := Go.Proofs.enters_of Try.func55 (by kernel_rfl) rfl
  have hw := Whole.new w 9 #[.string corr]
  have hcl : ∀ (W : World) (x : Msg), Below (w.alloc (.cells #[.string corr] 9)).heap.size (w.alloc (.cells #[.string corr] 9)) W → Calls Try.prog 55 (#[.agg x.cells.toArray] ++ #[.pointer (some ⟨w.heap.size, 0, none⟩)]) W fun e w' => e = .returned (.bool (mtch corr x)) ∧ Below (w.alloc (.cells #[.string corr] 9)).heap.size (w.alloc (.cells #[.string corr] 9)) w' := by
    intro W x hb
    have hc := (hw.below hb).cell 0
    have hlt : w.heap.size < W.heap.size := by have := hb.size; simp at this; omega
    have hb2 := hb.alloc hb.size (.cells x.cells.toArray 34)
    obtain ⟨i1, p1, r1, c1, a1, b1⟩ := x
    unfold Msg.cells at hb2 ⊢
    unfold mtch
    simp only at hb2 ⊢
    clear hb hw
    cases c1
    all_goals
      go_enter Try.func55, Try.ntmps55
      go_wp2
      go_ret
      exact ⟨by simp, hb2⟩
  have hb0 : Below w.heap.size w (w.alloc (.cells #[.string corr] 9)) := (Below.refl _ _).alloc (Nat.le_refl _) _
  have hix := indexFunc_any (mtch corr) 55 #[.pointer (some ⟨w.heap.size, 0, none⟩)] eg (w.alloc (.cells #[.string corr] 9)) v L (View.alloc hv _) hm hcl
  replace hix := Lib.hid hix
  clear hcl
  go_enter Try.func31, Try.ntmps31
  go_wp2_with (go_at_call 53; refine hix.out.mono ?_; rintro e w4 ⟨rfl, hb4⟩)
  go_ret
  exact ⟨rfl, below_then hb0 hb4⟩

theorem omsgs_set {w : World} {B g cap : Nat} {L : List Msg} (h : OMsgs w B (.slice (some ⟨g, 0, none⟩) L.length cap) L) (k : Nat) (hk : k < L.length) (j : Nat) (hj : j < 6) (u : Value) (y : Msg) (hy : y.cells = (L[k].cells).set j u) :
    OMsgs (w.setCell ⟨g, k * 6 + j, none⟩ u) B (.slice (some ⟨g, 0, none⟩) L.length cap) (L.set k y) := by
  unfold OMsgs at h ⊢
  have h1 := own_set h (k * 6 + j) (by omega) u
  rw [flatMap_set_one' Msg.cells 6 Msg.len L k hk j hj u y hy] at h1
  rw [List.length_set]
  exact h1
def Msg.claim (x : Msg) (on : Bool) : Msg := ⟨x.id, x.pri, x.retry, on, x.corr, x.body⟩
/-- What queue.Claim answers, where the message of that number lies at k (-1: nowhere). -/
inductive Claimed (L : List Msg) (id : Int) (on : Bool) : List Msg → Bool → Prop where
  | none (h : idxI (byId id) L = -1) : Claimed L id on L false
  | same (k : Nat) (hk : k < L.length) (h : idxI (byId id) L = k) (hc : L[k].claimed = on) : Claimed L id on L false
  | done (k : Nat) (hk : k < L.length) (h : idxI (byId id) L = k) (hc : L[k].claimed = !on) : Claimed L id on (L.set k (L[k].claim on)) true

set_option maxRecDepth 100000 in
set_option maxHeartbeats 4000000 in
theorem claim_any (w : World) (v : Value) (L M : List Msg) (id : Int) (on ok : Bool) (h : VMsgs w v L) (hm : L.length ≤ 1000000) (hC : Claimed L id on M ok) :
    Calls Try.prog 29 #[v, .int .i64 id, .bool on] w fun e w' => ∃ v', e = .returned (.tuple #[v', .bool ok]) ∧ OMsgs w' w.heap.size v' M ∧ Below w.heap.size w w' := by
  replace h := Lib.hid h
  cases hC with
  | none hi =>
    replace hi := Lib.hid hi
    go_enter Try.func29, Try.ntmps29
    go_wp2_with fail
    refine (find_any _ _ L _ h.out (by omega)).mono ?_; rintro e w1 ⟨rfl, hb1⟩
    have h1 := Lib.hid (View.below h.out hb1)
    rw [hi.out]
    go_wp2_with fail
    refine (cloneMsg _ _ L h1.out (by omega)).mono ?_; rintro e w2 ⟨v2, rfl, ho2, hb2⟩
    have hf : OMsgs w2 w.heap.size v2 L := own_mono ho2 hb1.size
    replace hf := Lib.hid hf
    replace ho2 := Lib.hid ho2
    go_wp2_with fail
    go_ret2
    exact ⟨_, rfl, hf.out, below_then hb1 hb2⟩
  | same k hk hi hc =>
    replace hi := Lib.hid hi
    go_enter Try.func29, Try.ntmps29
    go_wp2_with fail
    refine (find_any _ _ L _ h.out (by omega)).mono ?_; rintro e w1 ⟨rfl, hb1⟩
    have h1 := Lib.hid (View.below h.out hb1)
    rw [hi.out]
    go_wp2_with fail
    refine (cloneMsg _ _ L h1.out (by omega)).mono ?_; rintro e w2 ⟨v2, rfl, ho2, hb2⟩
    have hf : OMsgs w2 w.heap.size v2 L := own_mono ho2 hb1.size
    obtain ⟨g, cap, rfl, c1, c2, c3, c4⟩ := own_some ho2 (by omega)
    obtain ⟨b, off, cap', e, _, _, hbl, f⟩ := msgs_at ho2.view (by omega)
    injection e with e1 e2 e3
    injection e1 with e1
    injection e1 with e4 e5 e6
    subst e4 e5 e3
    obtain ⟨p0, p1, p2, p3, p4, p5⟩ := f k hk
    simp only [Nat.zero_add] at p3
    rw [hc] at p3
    clear f p0 p1 p2 p4 p5 hc
    have q1 : (k : Int) < (L.length : Int) := by omega
    replace hf := Lib.hid hf
    replace ho2 := Lib.hid ho2
    cases on
    all_goals
      go_wp2_with fail
      go_ret2
      exact ⟨_, rfl, hf.out, below_then hb1 hb2⟩
  | done k hk hi hc =>
    replace hi := Lib.hid hi
    go_enter Try.func29, Try.ntmps29
    go_wp2_with fail
    refine (find_any _ _ L _ h.out (by omega)).mono ?_; rintro e w1 ⟨rfl, hb1⟩
    have h1 := Lib.hid (View.below h.out hb1)
    rw [hi.out]
    go_wp2_with fail
    refine (cloneMsg _ _ L h1.out (by omega)).mono ?_; rintro e w2 ⟨v2, rfl, ho2, hb2⟩
    obtain ⟨g, cap, rfl, c1, c2, c3, c4⟩ := own_some ho2 (by omega)
    obtain ⟨b, off, cap', e, _, _, hbl, f⟩ := msgs_at ho2.view (by omega)
    injection e with e1 e2 e3
    injection e1 with e1
    injection e1 with e4 e5 e6
    subst e4 e5 e3
    obtain ⟨p0, p1, p2, p3, p4, p5⟩ := f k hk
    simp only [Nat.zero_add] at p3
    rw [hc] at p3
    clear f p0 p1 p2 p4 p5
    have q1 : (k : Int) < (L.length : Int) := by omega
    have f3 : w2.frozen? ⟨g, k * 6 + 3, none⟩ = false := own_free ho2 (k * 6 + 3)
    have hs := omsgs_set ho2 k hk 3 (by decide) (.bool on) (L[k].claim on) rfl
    have hf : OMsgs (w2.setCell ⟨g, k * 6 + 3, none⟩ (.bool on)) w.heap.size (.slice (some ⟨g, 0, none⟩) L.length cap) (L.set k (L[k].claim on)) ∧ Below w.heap.size w (w2.setCell ⟨g, k * 6 + 3, none⟩ (.bool on)) :=
      ⟨own_mono hs hb1.size, (below_then hb1 hb2).setCell (show w.heap.size ≤ g by have := hb1.size; omega) _⟩
    replace hf := Lib.hid hf
    replace ho2 := Lib.hid ho2
    clear hs hc
    cases on
    all_goals
      go_wp2_with fail
      go_ret2
      exact ⟨_, rfl, hf.out⟩
end Go.Proofs.Ytbckobclicogiaa
