/-
  slices.Equal of bytes; roots: cut, Need, place, root, by their contracts.
-/
import Derived.Test.YtbfcaapompkjhaaGb
import Derived.Test.YtbfcaapompkjhaaBits
set_option linter.unusedVariables false
set_option linter.unusedSimpArgs false
namespace Go.Proofs.Ytbfcaapompkjhaa
open Go.RowKit Go.Proofs.PosteMem
attribute [local go_sem ↓] Go.wp_at_zero Go.wp_at_succ

theorem getD_ext {a b : List Int} (hl : a.length = b.length) (h : ∀ j, j < a.length → a.getD j 0 = b.getD j 0) : a = b := by
  refine List.ext_getElem hl fun j h1 h2 => ?_
  have := h j h1
  simpa [List.getD_eq_getElem?_getD, h1, h2] using this
theorem byte_at {w : World} {A : Option Addr} {cap : Nat} {bs : List Int} (h : VB w (.slice A bs.length cap) bs) (k : Nat) (hk : k < bs.length) :
    ∃ b o, A = some ⟨b, o, none⟩ ∧ b < w.heap.size ∧ w.cell? ⟨b, o + k, none⟩ = some (.int .u8 (bs.getD k 0)) := by
  obtain ⟨b, o, c', e, _, _, hbl, hcc⟩ := View.at_ h (by omega)
  injection e with e1 e2 e3
  exact ⟨b, o, e1, hbl, hcc k _ (by simp [hk, List.getD_eq_getElem?_getD, bv])⟩
theorem below_dn {B : Nat} {w W : World} (n : Nat) (h : Below B w W) : Below B w (W.drewN n) := h.trans (⟨rfl, rfl, rfl, Nat.le_refl _, fun _ _ => rfl⟩)

set_option maxRecDepth 100000 in
set_option maxHeartbeats 8000000 in
theorem equalB (w : World) (v1 v2 : Value) (a b : List Int) (h1 : VB w v1 a) (h2 : VB w v2 b) (hla : a.length ≤ 1000000) :
    Calls Try.prog 75 #[v1, v2] w fun e w' => e = .returned (.bool (decide (a = b))) ∧ Below w.heap.size w w' := by
  obtain ⟨A1, c1, rfl, hc1, hm1⟩ := h1.cells
  obtain ⟨A2, c2, rfl, hc2, hm2⟩ := h2.cells
  by_cases hl : a.length = b.length
  · replace h1 : VB w (.slice A1 a.length c1) a := h1
    replace h2 : VB w (.slice A2 b.length c2) b := h2
    replace h1 := Lib.hid h1
    replace h2 := Lib.hid h2
    have q0 : (a.length : Int) = (b.length : Int) := by omega
    have q1 : ((a.length : Int) != (b.length : Int)) = false := by simp [q0]
    replace hl := Lib.hid hl
    go_enter Try.func75, Try.ntmps75
    clear q0
    go_wp2_with fail
    go_loopw [13] (fun i wr => ∃ k : Nat, k ≤ a.length ∧ i = .int .i64 k ∧ (∀ j, j < k → a.getD j 0 = b.getD j 0) ∧ Below w.heap.size w wr) (fun i _ => a.length - (intOf i).toNat)
    case atStart => exact ⟨0, by omega, rfl, fun j h => by omega, Below.refl _ _⟩
    case round =>
      obtain ⟨k, hk, rfl, hall, hb⟩ := hrel
      replace hall := Lib.hid hall
      by_cases hlt : k < a.length
      · have hlt2 : k < b.length := by have := hl.out; omega
        have q2 : (k : Int) < (a.length : Int) := by omega
        have q3 : (k : Int) < (b.length : Int) := by omega
        obtain ⟨b1, o1, rfl, hb1, hcc1⟩ := byte_at (View.below h1.out hb) k hlt
        obtain ⟨b2, o2, rfl, hb2, hcc2⟩ := byte_at (View.below h2.out hb) k hlt2
        by_cases he : a.getD k 0 = b.getD k 0
        · have hst := Lib.hid (fun j (hj : j < k + 1) => if h : j = k then (h ▸ he : a.getD j 0 = b.getD j 0) else hall.out j (by omega))
          generalize a.getD k 0 = x at *
          generalize b.getD k 0 = y at *
          subst he
          go_wp2_with fail
          go_quiet (fail)
          go_wp2_with fail
          go_roundw
          case rel => exact ⟨k + 1, by omega, by go_num, hst.out, below_dn _ hb⟩
          case measure => simp [intOf]; omega
        · have hdf := Lib.hid (decide_eq_false (fun e : a = b => he (by rw [e])))
          have he2 : ((a.getD k 0) != (b.getD k 0)) = true := by simpa using he
          generalize a.getD k 0 = x at *
          generalize b.getD k 0 = y at *
          go_wp2_with fail
          go_quiet (fail)
          go_wp2_with fail
          go_ret
          exact ⟨by rw [hdf.out]; rfl, below_dn _ hb⟩
      · obtain rfl : k = a.length := by omega
        have q2 : ¬ (a.length : Int) < (a.length : Int) := by omega
        go_wp2_with fail
        go_ret
        exact ⟨by rw [decide_eq_true (getD_ext hl.out hall.out)]; rfl, hb⟩
  · have q0 : ¬ (a.length : Int) = (b.length : Int) := by omega
    have q1 : ((a.length : Int) != (b.length : Int)) = true := by simpa using q0
    rw [decide_eq_false (fun e : a = b => hl (by rw [e]))]
    replace h1 := Lib.hid h1
    replace h2 := Lib.hid h2
    go_enter Try.func75, Try.ntmps75
    go_wp2_with fail
    go_ret
    exact ⟨rfl, Below.refl _ _⟩

def cutA (area : Int) : Int := if area < 1 then 1 else if 1000 < area then 1000 else area
set_option maxHeartbeats 4000000 in
theorem cutA_any (w : World) (area : Int) : Calls Try.prog 62 #[.int .i64 area] w fun e w' => e = .returned (.int .i64 (cutA area)) ∧ w' = w := by
  have h : (area < 1 ∧ area ≤ 1000 ∧ cutA area = 1) ∨ (1000 < area ∧ ¬ area ≤ 1000 ∧ cutA area = 1000) ∨ (1 ≤ area ∧ area ≤ 1000 ∧ cutA area = area) := by
    unfold cutA
    by_cases h1 : area < 1
    · exact .inl ⟨h1, by omega, if_pos h1⟩
    · by_cases h2 : 1000 < area
      · exact .inr (.inl ⟨h2, by omega, by rw [if_neg h1, if_pos h2]⟩)
      · exact .inr (.inr ⟨by omega, by omega, by rw [if_neg h1, if_neg h2]⟩)
  rcases h with ⟨h1, h2, h3⟩ | ⟨h1, h2, h3⟩ | ⟨h1, h2, h3⟩
  all_goals
    rw [h3]
    clear h3
    go_enter Try.func62, Try.ntmps62
    go_wp2
    all_goals
      go_ret
      exact ⟨by first | rfl | exact congrArg (fun z => Ending.returned (.int .i64 z)) (by omega), rfl⟩
/-- Where an epoch's image lies. -/
def placeR (at' area epoch : Int) : Int := at' + 2 + epoch % 2 * area
set_option maxHeartbeats 4000000 in
theorem place_any (w : World) (at' area epoch : Int) (h0 : 0 ≤ at') (h1 : at' ≤ 1000000) (h2 : 0 ≤ area) (h3 : area ≤ 1000) : Calls Try.prog 63 #[.int .i64 at', .int .i64 area, .int .i64 epoch] w fun e w' => e = .returned (.int .i64 (placeR at' area epoch)) ∧ w' = w := by
  have hb : bits .and .i64 epoch 1 = epoch % 2 := Go.Proofs.PosteMem.bits_mask epoch 1 (by decide)
  have h4 : epoch % 2 = 0 ∨ epoch % 2 = 1 := by omega
  unfold placeR
  rcases h4 with h4 | h4
  all_goals
    rw [h4] at hb ⊢
    go_enter Try.func63, Try.ntmps63
    go_wp2
    go_ret
    exact ⟨by first | rfl | exact congrArg (fun z => Ending.returned (.int .i64 z)) (by omega), rfl⟩

/-- A root's bytes. -/
def rootB (e s : Int) : List Int := fillB (le 4 2 ++ strL ⟨#[114, 111, 111, 116]⟩ ++ le (IntKind.u64.wrap e) 8 ++ le (IntKind.u64.wrap s) 8)
set_option maxHeartbeats 4000000 in
theorem root_any (w : World) (e s : Int) : Calls Try.prog 64 #[.int .i64 e, .int .i64 s] w fun x w' => ∃ v, x = .returned v ∧ OB w' w.heap.size v (rootB e s) ∧ Below w.heap.size w w' := by
  have h0 : Wr (w.alloc (.cells #[.slice none 0 0] 95)) w.heap.size w.heap.size [] := ⟨_, Whole.new _ _ _, World.ownsRow_nil _ _ _ _, Nat.le_refl _⟩
  have hb0 : Below w.heap.size w (w.alloc (.cells #[.slice none 0 0] 95)) := (Below.refl _ _).alloc (Nat.le_refl _) _
  have hs0 : w.heap.size ≤ (w.alloc (.cells #[.slice none 0 0] 95)).heap.size := hb0.size
  have k1 := Lib.hid (wtext_any _ _ _ [] ⟨#[114, 111, 111, 116]⟩ h0 hs0 (by simp) (by decide))
  have e4 : (⟨#[114, 111, 111, 116]⟩ : ByteArray).size = 4 := rfl
  rw [e4, List.nil_append] at k1
  go_enter Try.func64, Try.ntmps64
  go_wp2_with fail
  refine k1.out.mono ?_; rintro x w1 ⟨rfl, h1, hb1⟩
  have k2 := Lib.hid (wint_any w1 _ _ _ e h1 (Nat.le_trans hs0 hb1.size) (by simp [le_len, strL_len]; decide))
  have hB1 := hb0.trans hb1
  clear k1 h0 h1 hb1 hb0 hs0
  go_wp2_with fail
  refine k2.out.mono ?_; rintro x w2 ⟨rfl, h2, hb2⟩
  have hB2 := hB1.trans hb2
  have k3 := Lib.hid (wint_any w2 _ _ _ s h2 hB2.size (by simp [le_len, strL_len]; decide))
  clear k2 h2 hb2
  go_wp2_with fail
  refine k3.out.mono ?_; rintro x w3 ⟨rfl, h3, hb3⟩
  have hB3 := hB2.trans hb3
  have k4 := Lib.hid (wbytes_any w3 _ _ _ h3 (by simp [le_len, strL_len]; decide))
  clear k3 h3 hb3 hB2
  go_wp2_with fail
  refine k4.out.mono ?_; rintro x w4 ⟨v4, rfl, h4, hb4⟩
  have hB4 := below_then hB3 hb4
  have k5 := Lib.hid (fillS w4 v4 _ h4.view (by simp [le_len, strL_len]; decide))
  obtain ⟨A4, c4, rfl, _, _, _⟩ := own_shape h4
  clear k4 h4 hb4 hB3
  go_wp2_with fail
  refine k5.out.mono ?_; rintro x w5 ⟨v5, rfl, h5, hb5⟩
  have hB5 := below_then hB4 hb5
  have h6 := own_mono h5 hB4.size
  clear k5 hB4 h5 hb5
  replace h6 := Lib.hid h6
  go_wp2_with fail
  go_ret
  exact ⟨_, rfl, h6.out, hB5⟩
end Go.Proofs.Ytbfcaapompkjhaa
