/-
  LogKeeps: its walk.
-/
import Derived.Test.YtbfcaapompkjhaaKe
import Derived.Test.YtbfcaapompkjhaaHj
set_option linter.unusedVariables false
set_option linter.unusedSimpArgs false
namespace Go.Proofs.Ytbfcaapompkjhaa
open Go.RowKit Go.Proofs.PosteMem Go.Proofs.PosteOpen
attribute [local go_sem ↓] Go.wp_at_zero Go.wp_at_succ

def noneL : List Int := [110, 111, 110, 101]
theorem head5 : (le 3 2 ++ strL ⟨#[114, 101, 99]⟩).length = 5 := by
  rw [List.length_append, le_len]
  rfl
theorem head13 (n1 : Int) : (le 3 2 ++ strL ⟨#[114, 101, 99]⟩ ++ le n1 8).length = 13 := by
  rw [List.length_append, head5, le_len]
theorem head21 (n1 n2 : Int) : (le 3 2 ++ strL ⟨#[114, 101, 99]⟩ ++ le n1 8 ++ le n2 8).length = 21 := by
  rw [List.length_append, head13, le_len]
theorem head29 (n1 n2 n3 : Int) : (le 3 2 ++ strL ⟨#[114, 101, 99]⟩ ++ le n1 8 ++ le n2 8 ++ le n3 8).length = 29 := by
  rw [List.length_append, head21, le_len]

theorem VL.snoc {W : World} {v hd : Value} {hs : List Value} {L : List (List Int)} {x : List Int} (h : View W 1 v (L.length + 1) (hs ++ [hd])) (h2 : hs.length = L.length) (h3 : ∀ i (h1 : i < hs.length) (h2 : i < L.length), VB W hs[i] L[i]) (hx : VB W hd x) : VL W v (L ++ [x]) := by
  refine ⟨hs ++ [hd], by rw [List.length_append, List.length_singleton]; exact h, by simp [h2], fun i a c => ?_⟩
  by_cases hi : i < hs.length
  · rw [List.getElem_append_left hi, List.getElem_append_left (by omega)]
    exact h3 i hi (by omega)
  · have e : i = hs.length := by simp at a; omega
    subst e
    rw [List.getElem_append_right (Nat.le_refl _), List.getElem_append_right (by omega)]
    simp only [Nat.sub_self, h2, List.getElem_cons_zero]
    exact hx
theorem crash_len {D : Dk} (h : D.ok) (kp : List Bool) : (D.crash kp).now.length = D.now.length := by
  have h1 := h.len
  unfold Dk.crash
  simp only
  rw [settleN_len]
  omega
theorem DR.one {w W : World} {hs : List Value} {L : List (List Int)} (h2 : hs.length = L.length) (h3 : ∀ i (h1 : i < hs.length) (h2 : i < L.length), VB W hs[i] L[i]) : ∀ u ∈ hs, u.oneCell' = true := by
  intro u hu
  obtain ⟨i, hi, rfl⟩ := List.getElem_of_mem hu
  obtain ⟨A, cap, e, _⟩ := (h3 i hi (by omega)).cells
  rw [e]
  rfl

/-- The log, the row of what was kept, and the last text, all in the blocks K. -/
structure Kst (w W : World) (p q : Nat) (D : Dk) (g : Lg) (L : List (List Int)) (K : Nat → Prop) (vd vl : Value) (x : List Int) : Prop where
  lo : Lo w W p q D g K
  dr : DR w W K vd L
  lv : VB W vl x
  kl : ∀ y, blockOf vl = some y → K y ∧ vd.ownBlock ≠ some y
structure Tl (w W : World) (p : Nat) (D : Dk) (L : List (List Int)) (K : Nat → Prop) (vd vl : Value) (x : List Int) : Prop where
  hd : Hd w W p D K
  dr : DR w W K vd L
  lv : VB W vl x
  kl : ∀ y, blockOf vl = some y → K y
section
variable {w W W' : World} {p q : Nat} {D D' : Dk} {g g' : Lg} {L : List (List Int)} {K : Nat → Prop} {vd vl v : Value} {x b : List Int}
theorem Kst.lt (h : Kst w W p q D g L K vd vl x) : ∀ y, K y → y < W.heap.size := fun y hy => by
  obtain ⟨_, _, _, hLx⟩ := h.lo
  exact hd_in hLx.hd (.inl hy)
theorem Kst.text (h : Kst w W p q D g L K vd vl x) (ho : OB W' W.heap.size v b) (hb : Below W.heap.size W W') : ∃ K', Kst w W' p q D g L K' vd vl x ∧ VB W' v b ∧ ∀ y, blockOf v = some y → K' y ∧ vd.ownBlock ≠ some y := by
  refine ⟨fun b => K b ∨ (W.heap.size ≤ b ∧ b < W'.heap.size), ⟨h.lo.client hb, (h.dr.keep (Keeps.of_below hb)).mono fun _ => .inl, View.below h.lv hb, fun y hy => ⟨.inl (h.kl y hy).1, (h.kl y hy).2⟩⟩, ho.view, fun y hy => ?_⟩
  have h1 := own_lt ho ((block_own v).symm.trans hy)
  refine ⟨.inr h1, fun e => ?_⟩
  obtain ⟨hs, k1, _, _, k4, _⟩ := h.dr
  have := (own_lt k1 e).2
  omega
theorem Kst.call (h : Kst w W p q D g L K vd vl x) (hL : Lo w W' p q D' g' K) (k : Keeps K W W') : Kst w W' p q D' g' L K vd vl x :=
  ⟨hL, h.dr.keep k, k.view h.lv fun y hy => (h.kl y hy).1, h.kl⟩
theorem Kst.below (h : Kst w W p q D g L K vd vl x) (k : Below W.heap.size W W') : Kst w W' p q D g L K vd vl x := h.call (h.lo.below k) (Keeps.of_below k)
theorem Kst.add {hs : List Value} {v' hd : Value} (h : Kst w W p q D g L K vd vl x) (h2 : hs.length = L.length) (h3 : ∀ i (h1 : i < hs.length) (h2 : i < L.length), VB W hs[i] L[i]) (h4 : ∀ x, vd.ownBlock = some x → K x) (h5 : ∀ i (h1 : i < hs.length) x, blockOf hs[i] = some x → vd.ownBlock ≠ some x ∧ K x)
    (hlo : ∀ y, vd.ownBlock = some y → w.heap.size ≤ y)
    (hg : W.grownBy W' vd.ownBlock) (ho : W'.ownsRow w.heap.size 27 1 v' (L.length + 1) (hs ++ [hd])) (hat : v'.ownBlock = vd.ownBlock ∨ v'.ownBlock = some W.heap.size) (hv : VB W hd b) (hx : ∀ x, blockOf hd = some x → K x ∧ vd.ownBlock ≠ some x) :
    ∃ K', Kst w W' p q D g (L ++ [b]) K' v' vl x := by
  have hup : Upd (fun b => vd.ownBlock = some b) W W' := Upd.of_grown hg (fun _ e => e)
  refine ⟨fun b => K b ∨ (W.heap.size ≤ b ∧ b < W'.heap.size), h.lo.upd hup fun y hy => ⟨h4 y hy, hlo y hy⟩, DR.add h2 h3 h4 h5 h.lt hg ho hat hv fun y hy => ⟨(hx y hy).2, (hx y hy).1⟩, View.upd h.lv hup fun y hy e => (h.kl y hy).2 e, fun y hy => ⟨.inl (h.kl y hy).1, fun e => ?_⟩⟩
  rcases hat with e2 | e2
  · exact (h.kl y hy).2 (e2 ▸ e)
  · rw [e2] at e
    injection e with e
    have := h.lt y (h.kl y hy).1
    omega
theorem Kst.tl (h : Kst w W p q D g L K vd vl x) : Tl w W p D L K vd vl x := by
  obtain ⟨h1, h2, h3, h4⟩ := h
  obtain ⟨_, _, _, hLx⟩ := h1
  exact ⟨hLx.hd.mono fun _ => .inl, h2, h3, fun y hy => (h4 y hy).1⟩
theorem Kst.tl' (h : Kst w W p q D g L K vd vl x) (hv : VB W v b) (hx : ∀ y, blockOf v = some y → K y) : Tl w W p D L K vd v b := by
  obtain ⟨h1, h2, h3, h4⟩ := h
  obtain ⟨_, _, _, hLx⟩ := h1
  exact ⟨hLx.hd.mono fun _ => .inl, h2, hv, hx⟩
end

set_option maxRecDepth 100000 in
set_option maxHeartbeats 8000000 in
theorem keeps_core (w : World) (A A2 A3 : Option Addr) (cap cap2 cap3 : Nat) (el l : List Int) (kp : List Bool) (left : Int) (hleft : left < 9223372036854775808) (h : View w 1 (.slice A el.length cap) el.length (el.map (.int .i64))) (h2 : View w 1 (.slice A2 l.length cap2) l.length (l.map (.int .i64))) (h3 : View w 1 (.slice A3 kp.length cap3) kp.length (kp.map .bool)) :
    Calls Try.prog 14 #[.slice A el.length cap, .slice A2 l.length cap2, .int .i64 left, .slice A3 kp.length cap3] w fun e w' => e = .returned (.bool true) ∧ Below w.heap.size w w' := by
  obtain ⟨j0, hj0, hy0, hy1, hy2⟩ := info_parts infoByte
  obtain ⟨i0, hi0, hz0, hz1, hz2⟩ := info_parts infoBs
  have hkC : kp ≠ [] → ∀ b, blockOf (.slice A3 kp.length cap3) = some b → b < w.heap.size := fun hne b hb => by
    have h0 : 0 < kp.length := by
      rcases Nat.eq_zero_or_pos kp.length with h | h
      · exact absurd (List.eq_nil_of_length_eq_zero h) hne
      · exact h
    obtain ⟨lb, lo, lc, e2, _, _, hll, _⟩ := h3.at_ (show 0 < kp.length * 1 by omega)
    rw [e2] at hb
    injection hb with hb
    subst hb
    exact hll
  replace h := Lib.hid h
  replace h2 := Lib.hid h2
  replace h3 := Lib.hid h3
  have hcases : 12 < el.length ∨ (el.length ≤ 12 ∧ l.length < 1) ∨ (el.length ≤ 12 ∧ 1 ≤ l.length ∧ 12 < l.length) ∨ (el.length ≤ 12 ∧ 1 ≤ l.length ∧ l.length ≤ 12 ∧ left < 0) ∨ (el.length ≤ 12 ∧ 1 ≤ l.length ∧ l.length ≤ 12 ∧ 0 ≤ left ∧ 200 < kp.length) ∨ (el.length ≤ 12 ∧ 1 ≤ l.length ∧ l.length ≤ 12 ∧ 0 ≤ left ∧ kp.length ≤ 200) := by omega
  rcases hcases with g1 | ⟨g1, g2⟩ | ⟨g1, g2, g3⟩ | ⟨g1, g2, g3, g4⟩ | ⟨g1, g2, g3, g4, g5⟩ | ⟨g1, g2, g3, g4, g5⟩
  · have q1 : (12 : Int) < (el.length : Int) := by omega
    go_enter Try.func14, Try.ntmps14
    go_wp2_with fail
    refine (alive5 _).mono ?_; rintro e w1 ⟨rfl, hb1⟩
    go_wp2
    go_ret
    exact ⟨rfl, hb1⟩
  · have q1 : ¬ (12 : Int) < (el.length : Int) := by omega
    have q2 : (l.length : Int) < 1 := by omega
    go_enter Try.func14, Try.ntmps14
    go_wp2_with fail
    refine (alive5 _).mono ?_; rintro e w1 ⟨rfl, hb1⟩
    go_wp2
    go_ret
    exact ⟨rfl, hb1⟩
  · have q1 : ¬ (12 : Int) < (el.length : Int) := by omega
    have q2 : ¬ (l.length : Int) < 1 := by omega
    have q3 : (12 : Int) < (l.length : Int) := by omega
    go_enter Try.func14, Try.ntmps14
    go_wp2_with fail
    refine (alive5 _).mono ?_; rintro e w1 ⟨rfl, hb1⟩
    go_wp2
    go_ret
    exact ⟨rfl, hb1⟩
  · have q1 : ¬ (12 : Int) < (el.length : Int) := by omega
    have q2 : ¬ (l.length : Int) < 1 := by omega
    have q3 : ¬ (12 : Int) < (l.length : Int) := by omega
    go_enter Try.func14, Try.ntmps14
    go_wp2_with fail
    refine (alive5 _).mono ?_; rintro e w1 ⟨rfl, hb1⟩
    go_wp2
    go_ret
    exact ⟨rfl, hb1⟩
  · have q1 : ¬ (12 : Int) < (el.length : Int) := by omega
    have q2 : ¬ (l.length : Int) < 1 := by omega
    have q3 : ¬ (12 : Int) < (l.length : Int) := by omega
    have q4 : ¬ left < 0 := by omega
    have q5 : (200 : Int) < (kp.length : Int) := by omega
    go_enter Try.func14, Try.ntmps14
    go_wp2_with fail
    refine (alive5 _).mono ?_; rintro e w1 ⟨rfl, hb1⟩
    go_wp2
    go_ret
    exact ⟨rfl, hb1⟩
  have q1 : ¬ (12 : Int) < (el.length : Int) := by omega
  have q2 : ¬ (l.length : Int) < 1 := by omega
  have q3 : ¬ (12 : Int) < (l.length : Int) := by omega
  have q4 : ¬ left < 0 := by omega
  have q5 : ¬ (200 : Int) < (kp.length : Int) := by omega
  go_enter Try.func14, Try.ntmps14
  go_wp2_with fail
  refine (alive5 _).mono ?_; rintro e w1 ⟨rfl, hb1⟩
  go_wp2_with fail
  refine (hd_new hb1 60).mono ?_; rintro e w2 ⟨rfl, hd2, hb2⟩
  rw [show many 60 = 60 from rfl] at hd2
  have hd2' : Hd w w2 w1.heap.size (Dk.new 60) (fun _ => False) := hd2.mono (fun _ hh => hh.elim)
  have kO := Lib.hid (open_any hd2' (new_ok 60 (by decide)) (Fit.new 60) 2 50 6 (by decide) (by decide) (by rw [new_len]; decide))
  generalize w1.heap.size = p at *
  clear hd2 hb2 hd2'
  go_wp2_with fail
  refine kO.out.mono ?_; rintro e w3 ⟨q0, g0, rfl, hO, hL, _⟩
  have hE0 := El.zero hO
  clear kO hO
  go_upto_region 9 with fail
  have e1 : decide ((12 : Int) < (el.length : Int)) = false := decide_eq_false (by omega)
  have e2 : decide ((l.length : Int) < 1) = false := decide_eq_false (by omega)
  have e3 : decide ((12 : Int) < (l.length : Int)) = false := decide_eq_false (by omega)
  have e4 : decide (left < 0) = false := decide_eq_false (by omega)
  have e5 : decide ((200 : Int) < (kp.length : Int)) = false := decide_eq_false (by omega)
  simp only [e1, e2, e3, e4, e5, Bool.or_false]
  clear e1 e2 e3 e4 e5 q1 q2 q3 q4 q5
  go_loopw [12] (fun i wr => ∃ (k : Nat) (D : Dk) (g : Lg), k ≤ el.length ∧ i = .int .i64 k ∧ Lo w wr p q0 D g (fun _ => False) ∧ El D g k) (fun i _ => el.length - (intOf i).toNat)
  case atStart => exact ⟨0, _, _, by omega, rfl, hL, hE0⟩
  case round =>
    clear hL hE0
    obtain ⟨k, D, g, hk, rfl, hL, hE⟩ := hrel
    by_cases hlt : k < el.length
    · have q1 : (k : Int) < (el.length : Int) := by omega
      obtain ⟨lb, lo, rfl, hll, hlc⟩ := ints_at (View.below h.out hL.acc) k hlt
      obtain ⟨m1, hm1, hm1b⟩ := low_mask (el.getD k 0) 3 (by decide)
      obtain ⟨m2, hm2, hm2b⟩ := low_mask (el.getD k 0) 6 (by decide)
      have hm1' : bits .and .i64 (el.getD k 0) 7 = (m1 : Int) := hm1
      have hm2' : bits .and .i64 (el.getD k 0) 63 = (m2 : Int) := hm2
      clear hm1 hm2
      have hm1c : m1 < 8 := hm1b
      have hm2c : m2 < 64 := hm2b
      clear hm1b hm2b
      generalize el.getD k 0 = x at *
      have hq : wr.heap.size < (wr.alloc (.cells #[.slice none 0 0] 70)).heap.size := by simp
      have hB0 : Below wr.heap.size wr (wr.alloc (.cells #[.slice none 0 0] 70)) := (Below.refl _ _).alloc (Nat.le_refl _) _
      have hW0 : Wq (wr.alloc (.cells #[.slice none 0 0] 70)) wr.heap.size wr.heap.size [] := ⟨_, Whole.new _ _ _, World.ownsRow_nil _ _ _ _, Nat.le_refl _⟩
      have kT := Lib.hid (qtext_any _ _ _ hW0 (Nat.le_of_lt hq))
      replace hE := Lib.hid hE
      clear hW0
      replace hB0 := Lib.hid hB0
      have hLc := fun (W' : World) (hB : Below wr.heap.size wr W') => hL.client hB
      replace hLc := Lib.hid hLc
      clear hL
      go_wp2_with fail
      generalize wr.heap.size = q at *
      refine kT.out.mono ?_; rintro e w4 ⟨rfl, hW4, hb4⟩
      have hB4 := Lib.hid (hB0.out.trans hb4)
      have a1 : q ≤ w4.heap.size := Nat.le_trans (Nat.le_of_lt hq) hb4.size
      have a2 : (le 3 2 ++ strL ⟨#[114, 101, 99]⟩).length ≤ 1000 := by rw [head5]; omega
      have kI0 := qint_any w4 q q (le 3 2 ++ strL ⟨#[114, 101, 99]⟩) 7 hW4 a1 a2 (by omega) (by omega)
      have kI := Lib.hid kI0
      have hq4 := Nat.lt_of_lt_of_le hq hb4.size
      clear kT hW4 hb4 hB0
      go_wp2_with fail
      refine kI.out.mono ?_; rintro e w5 ⟨rfl, hW5, hb5⟩
      have hB5 := Lib.hid (hB4.out.trans hb5)
      have kI5 := Lib.hid (qint_any w5 q q _ (1 + (m1 : Int)) hW5 (Nat.le_trans (Nat.le_of_lt hq4) hb5.size) (by rw [head13]; decide) (by omega) (by omega))
      have hq5 := Nat.lt_of_lt_of_le hq4 hb5.size
      have hlc5 := (hB5.out.cell (p := ⟨lb, lo + k, none⟩) hll).trans hlc
      have hll5 := Nat.lt_of_lt_of_le hll (Nat.le_trans (Nat.le_of_lt hq5) (Nat.le_refl _))
      have ew : IntKind.i64.wrap (1 + (m1 : Int)) = 1 + (m1 : Int) := by rw [IntKind.wrap_i64]; omega
      clear kI hW5 hb5 hB4
      go_wp2_with fail
      refine kI5.out.mono ?_; rintro e w6 ⟨rfl, hW6, hb6⟩
      have hB6 := Lib.hid (hB5.out.trans hb6)
      have kI6 := Lib.hid (qint_any w6 q q _ (m2 : Int) hW6 (Nat.le_trans (Nat.le_of_lt hq5) hb6.size) (by rw [head21]; decide) (by omega) (by omega))
      have hq6 := Nat.lt_of_lt_of_le hq5 hb6.size
      have hlc6 := (hB6.out.cell (p := ⟨lb, lo + k, none⟩) hll).trans hlc
      have hll6 := Nat.lt_of_lt_of_le hll (Nat.le_of_lt hq6)
      clear kI5 hW6 hb6 hB5 hlc5 hll5 ew
      go_wp2_with fail
      refine kI6.out.mono ?_; rintro e w7 ⟨rfl, hW7, hb7⟩
      have hB7 := Lib.hid (hB6.out.trans hb7)
      have hq7 := Nat.lt_of_lt_of_le hq6 hb7.size
      clear kI6 hb7 hB6 hlc6 hll6
      have hbl : byteL (le 3 2 ++ strL ⟨#[114, 101, 99]⟩ ++ le 7 8 ++ le (1 + (m1 : Int)) 8 ++ le (m2 : Int) 8) := (((byteL.le _ _).app (.str _)).app (.le _ _) |>.app (.le _ _)).app (.le _ _)
      have hln := head29 7 (1 + (m1 : Int)) (m2 : Int)
      generalize (le 3 2 ++ strL ⟨#[114, 101, 99]⟩ ++ le 7 8 ++ le (1 + (m1 : Int)) 8 ++ le (m2 : Int) 8) = bs at *
      obtain ⟨v, hx, ho, _⟩ := hW7
      unfold OB at ho
      rw [hln] at ho
      have hne := Lib.hid (own_ne_whole ho hx (by decide))
      obtain ⟨A7, c, rfl, _, _, _⟩ := own_shape ho
      have c0 : w7.cell? ⟨q, 0, none⟩ = some (.slice A7 29 c) := hx.cell 0
      have hBq : q ≤ w7.drew.heap.size := Nat.le_of_lt hq7
      replace hx := Lib.hid hx
      replace ho := Lib.hid ho
      go_upto_region 16 with fail
      refine tl_begin (fun (w' : World) => w'.cell? ⟨q, 0, none⟩ = some (.slice A7 29 c)) [] (by kernel_rfl) (c0) (fun hHeld => ?_)
      refine tl_p (i := 0) (v := ?_) rfl (by rfl) (by kernel_rfl) (by kernel_rfl) (by kernel_rfl) (fun _ _ _ h => h) (by rfl) hHeld ?_ ?_
      rotate_left
      · intro w
        go_simp
        try (with_reducible rfl)
      try simp only [Act.put, List.setIfInBounds_toArray, List.set_cons_zero, List.set_cons_succ]
      refine tl_p (i := 1) (v := ?_) rfl (by rfl) (by kernel_rfl) (by kernel_rfl) (by kernel_rfl) (fun _ _ _ h => h) (by rfl) hHeld ?_ ?_
      rotate_left
      · intro w
        go_simp
        try (with_reducible rfl)
      try simp only [Act.put, List.setIfInBounds_toArray, List.set_cons_zero, List.set_cons_succ]
      refine tl_p (i := 2) (v := ?_) rfl (by rfl) (by kernel_rfl) (by kernel_rfl) (by kernel_rfl) (fun _ _ _ h => h) (by rfl) hHeld ?_ ?_
      rotate_left
      · intro w
        go_simp
        try (with_reducible rfl)
      try simp only [Act.put, List.setIfInBounds_toArray, List.set_cons_zero, List.set_cons_succ]
      refine tl_w (i := 3) (v := ?_) rfl (by rfl) (by kernel_rfl) (by kernel_rfl) (by kernel_rfl) (by kernel_rfl) (by kernel_rfl) (fun _ _ _ h => h) (by rfl) hHeld ?_ ?_
      rotate_left
      · intro w hSw
        try dsimp only at hSw
        go_simp
        try (with_reducible rfl)
      try simp only [Act.put, List.setIfInBounds_toArray, List.set_cons_zero, List.set_cons_succ]
      refine tl_p (i := 4) (v := ?_) rfl (by rfl) (by kernel_rfl) (by kernel_rfl) (by kernel_rfl) (fun _ _ _ h => h) (by rfl) hHeld ?_ ?_
      rotate_left
      · intro w
        go_simp
        try (with_reducible rfl)
      try simp only [Act.put, List.setIfInBounds_toArray, List.set_cons_zero, List.set_cons_succ]
      refine tl_p (i := 5) (v := ?_) rfl (by rfl) (by kernel_rfl) (by kernel_rfl) (by kernel_rfl) (fun _ _ _ h => h) (by rfl) hHeld ?_ ?_
      rotate_left
      · intro w
        go_simp
        try (with_reducible rfl)
      try simp only [Act.put, List.setIfInBounds_toArray, List.set_cons_zero, List.set_cons_succ]
      refine tl_p (i := 6) (v := ?_) rfl (by rfl) (by kernel_rfl) (by kernel_rfl) (by kernel_rfl) (fun _ _ _ h => h) (by rfl) hHeld ?_ ?_
      rotate_left
      · intro w
        go_simp
        try (with_reducible rfl)
      try simp only [Act.put, List.setIfInBounds_toArray, List.set_cons_zero, List.set_cons_succ]
      refine tl_w (i := 7) (v := ?_) rfl (by rfl) (by kernel_rfl) (by kernel_rfl) (by kernel_rfl) (by kernel_rfl) (by kernel_rfl) (fun _ _ _ h => h) (by rfl) hHeld ?_ ?_
      rotate_left
      · intro w hSw
        try dsimp only at hSw
        go_simp
        try (with_reducible rfl)
      try simp only [Act.put, List.setIfInBounds_toArray, List.set_cons_zero, List.set_cons_succ]
      refine tl_p (i := 8) (v := ?_) rfl (by rfl) (by kernel_rfl) (by kernel_rfl) (by kernel_rfl) (fun _ _ _ h => h) (by rfl) hHeld ?_ ?_
      rotate_left
      · intro w
        go_simp
        try (with_reducible rfl)
      try simp only [Act.put, List.setIfInBounds_toArray, List.set_cons_zero, List.set_cons_succ]
      refine tl_p (i := 9) (v := ?_) rfl (by rfl) (by kernel_rfl) (by kernel_rfl) (by kernel_rfl) (fun _ _ _ h => h) (by rfl) hHeld ?_ ?_
      rotate_left
      · intro w
        go_simp
        try (with_reducible rfl)
      try simp only [Act.put, List.setIfInBounds_toArray, List.set_cons_zero, List.set_cons_succ]
      refine tl_do (i := 10) rfl (by kernel_rfl) (by rfl) (fun K hK => ?_)
      refine wp_append_own_zeros _ (.tmp 86) (.tmp 92) 27 3 rfl q 5 j0 .i64 .i64 Try.underlying27 Try.underlying3 hj0 hy0 hy1 hy2 (.slice A7 29 c) 29 _ rfl ho.out (by decide) 35 rfl (by decide) (by decide) hBq ?_
      intro v8 w8 hown8 hg8
      have x8 := (hx.out.drew.grown hg8 hne.out).cell 0
      have hB8 := Lib.hid ((Below.drew hB7.out).grown hg8 hBq (fun j hj => (ho.out.lt j hj).1))
      have hs8 : q ≤ w8.heap.size := Nat.le_trans hBq hg8.size
      have hr8 : w8.ownsRow q 5 1 v8 64 ((bs ++ List.replicate 35 0).map bv) := by rw [List.map_append, List.map_replicate]; exact hown8
      have hl8 : (bs ++ List.replicate 35 0).length = 64 := by rw [List.length_append, hln, List.length_replicate]
      have hy8 := hbl.app (byteL.zeros 35)
      generalize bs ++ List.replicate 35 0 = b8 at *
      obtain ⟨A8, c8, rfl, _, _, _⟩ := own_shape hr8
      replace hr8 := Lib.hid hr8
      clear hown8 hg8
      refine hK.out _ _ (x8) (fun hHeld1 => ?_)
      clear hK K hHeld
      have hHeld := hHeld1
      clear hHeld1
      try simp only [Act.put, List.setIfInBounds_toArray, List.set_cons_zero, List.set_cons_succ]
      refine tl_p (i := 11) (v := ?_) rfl (by rfl) (by kernel_rfl) (by kernel_rfl) (by kernel_rfl) (fun _ _ _ h => h) (by rfl) hHeld ?_ ?_
      rotate_left
      · intro w
        go_simp
        try (with_reducible rfl)
      try simp only [Act.put, List.setIfInBounds_toArray, List.set_cons_zero, List.set_cons_succ]
      refine till_done (by kernel_rfl) ?_ _
      clear hHeld x8 c0 hx ho hne hB7 hln hbl hBq hq7
      have hl16 : (b8 ++ b8).length = 128 := by rw [List.length_append, hl8]
      have hy16 := hy8.app hy8
      go_wp2_with (first | (at_builtin; refine wpList_append_view _ rfl (.const (.slice none 0 0)) (.tmp 95) _ rfl q 5 j0 (.int .u8 0) 1 1 Try.underlying27 hj0 hy0 hy1 hy2 rfl (by decide) _ 0 [] rfl (World.ownsRow_nil _ _ _ _) _ 64 _ rfl (View.of_own hr8.out) (bv_one _) (by omega) (by simp only [maxLen]; omega) hs8 ?_; intro v9 w9 hown9 hg9 hat9; rw [Nat.zero_add, List.nil_append] at hown9; obtain ⟨A9, c9, rfl, hm9, hc9, hA9⟩ := own_shape hown9; have up9 := Upd.of_grown (S := fun _ => False) hg9 (fun _ h => by cases h); have ho8' := own_upd hr8.out up9 (fun _ _ h => h); have hs9 := Nat.le_trans hs8 hg9.size) | (at_builtin; refine wpList_append_view _ rfl (.tmp 96) (.tmp 97) _ rfl q 5 j0 (.int .u8 0) 1 1 Try.underlying27 hj0 hy0 hy1 hy2 rfl (by decide) _ 64 _ rfl hown9 _ 64 _ rfl (View.of_own ho8') (bv_one _) (by omega) (by simp only [maxLen]; omega) hs9 ?_; intro v10 w10 hown10 hg10 hat10))
      have ho10 : w10.ownsRow q 5 1 v10 128 ((b8 ++ b8).map bv) := by rw [List.map_append]; exact hown10
      have hB10 : Below q wr w10 := (hB8.out.grown hg9 hs8 (fun j hj => by cases hj)).grown hg10 hs9 (fun j hj => (hown9.lt j hj).1)
      have hvK := fun x (hx : blockOf v10 = some x) => own_lt ho10 ((block_own v10).symm.trans hx)
      have hv10 : VB w10 v10 (b8 ++ b8) := by have := View.of_own ho10; unfold VB; rw [hl16]; exact this
      have hL10 := hLc.out w10 hB10
      have hEn := Lib.hid (hE.out.next (by omega) hl16 hy16)
      have kA := Lib.hid (lappend_free hL10 hE.out.free (hE.out.small (by omega)) hE.out.ok hv10 (fun x hx => .inr (hvK x hx)) (by omega) (by have := hE.out.few; omega) (by rw [hE.out.uns]; simp) (hE.out.fits (by omega) hl16) (by rw [hE.out.en, hE.out.len]; decide))
      clear hown10 hg10 hat10 hB8 hr8 hown9 hg9 hat9 up9 ho8' ho10 hB10 hvK hv10 hL10 hE hLc hm9 hc9 hA9
      go_wp2_with fail
      refine kA.out.mono ?_; rintro e w11 ⟨rfl, hL11, _⟩
      replace hL11 := Lib.hid (hL11.mono (K' := fun _ => False) fun _ hh => hh.elim)
      clear kA
      go_wp2_with fail
      go_roundw
      case rel => exact ⟨k + 1, _, _, by omega, by go_num, hL11.out, hEn.out⟩
      case measure => simp [intOf]; omega
    · obtain rfl : k = el.length := by omega
      have q1 : ¬ (el.length : Int) < (el.length : Int) := by omega
      have hnn := hE.free.ok
      obtain ⟨_, _, _, hLx⟩ := hL
      have hd := hLx.hd.mono (C' := fun _ => False) (fun _ hh => hh.elim)
      have kO := Lib.hid (open_any hd hE.free.ok hE.fit 2 50 7 (by decide) (by decide) (by rw [hE.len]; decide))
      replace hE := Lib.hid hE
      clear hLx hd hnn
      go_wp2_with fail
      refine kO.out.mono ?_; rintro e w3 ⟨q3, g3, rfl, hO, hL3, _⟩
      obtain ⟨rfl, hK0⟩ := Kp.zero hE.out g1 hO left hleft
      have kR := Lib.hid (records_any hL3 (by decide) (fun b hb => by cases hb))
      replace hL3 := Lib.hid hL3
      clear kO hO hE
      go_wp2_with fail
      refine kR.out.mono ?_; rintro e w4 ⟨v4, rfl, hB4, hb4⟩
      have hL4 := hL3.out.below hb4
      obtain ⟨hs4, ho4, _⟩ := hB4
      obtain ⟨A4, c4, rfl, _, _, _⟩ := own_shape ho4
      obtain ⟨vL, hsL, ML, hLL⟩ := hL4
      have kB := Lib.hid (hd_break hLL.hd left)
      replace hLL := Lib.hid hLL
      clear kR hL3 ho4 hb4
      go_wp2_with fail
      refine kB.out.mono ?_; rintro e w5 ⟨rfl, hd5, hk5⟩
      have hL5 : Lo w w5 p q3 (D.brk left) g7 (fun _ => False) := ⟨_, _, _, hLL.out.disk hd5 hk5⟩
      generalize D.brk left = D1 at *
      replace hL5 := Lib.hid hL5
      clear kB hd5 hk5 hLL
      have kcs := fun (w : World) (C : Array Value) (n c : Nat) => Lib.run_convert_bytes_const (P := Try.prog) w 27 5 C n c Try.underlying27 Try.underlying5
      go_upto_region 25 with fail
      clear kcs
      have hL6 := hL5.out.client ((Below.refl w5.heap.size w5).alloc (Nat.le_refl _) (.cells #[.int .u8 110, .int .u8 111, .int .u8 110, .int .u8 101] 5 (4, 5)))
      have hv6 : VB (w5.alloc (.cells #[.int .u8 110, .int .u8 111, .int .u8 110, .int .u8 101] 5 (4, 5))) (.slice (some ⟨w5.heap.size, 0, none⟩) 4 4) noneL := lit_view w5 noneL (4, 5) (by decide)
      have hS6 : Kst w (w5.alloc (.cells #[.int .u8 110, .int .u8 111, .int .u8 110, .int .u8 101] 5 (4, 5))) p q3 D1 g7 g7.recs _ (.slice none 0 0) (.slice (some ⟨w5.heap.size, 0, none⟩) 4 4) noneL := ⟨hL6, DR.nil _ _ _, hv6, fun x hx => by
        have hx' : some w5.heap.size = some x := hx
        injection hx' with hx'; subst hx'; exact ⟨.inr ⟨Nat.le_refl _, by simp⟩, fun e => by cases e⟩⟩
      go_loopw [16, 17, 18] (fun vd vl i wr => ∃ (k : Nat) (D : Dk) (g : Lg) (K : Nat → Prop) (vd0 vl0 : Value), k ≤ l.length ∧ vd = vd0 ∧ vl = vl0 ∧ i = .int .i64 k ∧ Kst w wr p q3 D g g.recs K vd0 vl0 noneL ∧ Kp D g k) (fun _ _ i _ => l.length - (intOf i).toNat)
      case atStart => exact ⟨0, _, _, _, _, _, by omega, rfl, rfl, rfl, hS6, hK0⟩
      case round =>
        clear hL6 hK0 hv6 hS6 hL5
        obtain ⟨k, D, g, K, vd, vl, hk, rfl, rfl, rfl, hS, hE⟩ := hrel
        by_cases hlt : k < l.length
        · have q1 : (k : Int) < (l.length : Int) := by omega
          obtain ⟨lb, lo, rfl, hll, hlc⟩ := ints_at (View.below h2.out hS.lo.acc) k hlt
          obtain ⟨m, hm, hmb⟩ := low_mask (l.getD k 0) 8 (by decide)
          have hm' : bits .and .i64 (l.getD k 0) 255 = (m : Int) := hm
          have hmc : m < 256 := hmb
          clear hm hmb
          generalize l.getD k 0 = x at *
          have hu8 : IntKind.u8.wrap (1 + (k : Int)) = 1 + (k : Int) := by rw [IntKind.wrap_u8]; omega
          have hbl : (fillL m (1 + (k : Int))).length ≤ 255 := by rw [fillL_len]; omega
          have hby : byteL (fillL m (1 + (k : Int))) := fillL_byteL _ (by omega)
          have kT := Lib.hid (text5_any wr m (1 + (k : Int)) (by omega))
          generalize fillL m (1 + (k : Int)) = b at *
          have hgS := hE.small (by omega)
          have hgo := hE.ok
          have hgr := hE.recs
          have hgw := hE.few
          have hgu : D.uns.length ≤ 10000 := by rw [hE.whol.uns]; simp
          have hgk := hE.whol.ok
          have hgn := (hE.none (by omega) b hbl).1
          have hgf := hE.next (k := k) (by omega) hbl hby
          replace hS := Lib.hid hS
          replace hE := Lib.hid hE
          replace hgn := Lib.hid hgn
          replace hgf := Lib.hid hgf
          replace hgS := Lib.hid hgS
          go_wp2_with fail
          refine kT.out.mono ?_; rintro e w7 ⟨v7, rfl, ho7, hb7⟩
          obtain ⟨K7, hS7, hv7, hk7⟩ := hS.out.text ho7 hb7
          obtain ⟨A7, c7, rfl, _, _, _⟩ := own_shape ho7
          replace hk7 := Lib.hid hk7
          clear ho7 hb7 hS hlc kT hll
          cases hfb : fitsB g.en g.nx b.length with
          | false =>
            have kA := Lib.hid (lappend_no hS7.lo hgS.out hgo hv7 (by omega) hfb)
            have hSb := Lib.hid hS7
            replace hv7 := Lib.hid hv7
            clear hS7 hfb hgf hgr
            go_wp2_with fail
            refine kA.out.mono ?_; rintro e w8 ⟨rfl, hL8, hk8⟩
            have hTl := (hSb.out.call hL8 hk8).tl' (hk8.view hv7.out fun y hy => (hk7.out y hy).1) fun y hy => (hk7.out y hy).1
            have hLf := hgn.out
            generalize g.recs = LT at *
            replace hTl := Lib.hid hTl
            replace hLf := Lib.hid hLf
            clear kA hL8 hk8 hSb hgn hE
            go_wp2_with fail
            refine (num5_any _ 6).mono ?_; rintro x9 w9 ⟨rfl, hw1⟩
            have hw2 := hw1.symm
            subst hw2
            clear hw1
            go_wp2_with fail
            have kX := Lib.hid (hd_crash hTl.out.hd hLf.out.ok (View.below h3.out hTl.out.hd.acc) (fun hne b hb => .inr (hkC hne b hb)) (by omega) (by have := hLf.out.few; omega))
            refine kX.out.mono ?_; rintro e wa ⟨rfl, hdA, hkA⟩
            have hDA := hTl.out.dr.keep hkA
            have hvA := hkA.view hTl.out.lv hTl.out.kl
            have kO := Lib.hid (open_any hdA (crash_ok hLf.out.ok kp) (hLf.out.fit.crash kp) 2 50 7 (by decide) (by decide) (by rw [crash_len hLf.out.ok, hLf.out.len]; decide))
            have hKl := Lib.hid hTl.out.kl
            replace hDA := Lib.hid hDA
            replace hvA := Lib.hid hvA
            clear kX hdA hkA hTl
            go_wp2_with fail
            refine kO.out.mono ?_; rintro e wb ⟨qb, gb, rfl, hOb, hLb, hkb⟩
            have hDB := hDA.out.keep hkb
            have hvB := hkb.view hvA.out hKl.out
            have hsaid := hLf.out.said kp gb hOb
            have hmany := hLf.out.many
            have hshort := Lib.hid hLf.out.short
            clear kO hkb hOb hDA hvA hLf
            rcases hsaid with hr | hr
            · have kR := Lib.hid (records_any hLb (by rw [hr]; omega) (fun b1 hb1 => by rw [hr] at hb1; have := hshort.out b1 (List.mem_append_left _ hb1); omega))
              rw [hr] at kR
              have haB := Lib.hid hLb.acc
              replace hDB := Lib.hid hDB
              clear hLb hvB hr
              go_wp2_with fail
              refine kR.out.mono ?_; rintro e wc ⟨vc, rfl, hBc, hbc⟩
              have kS := Lib.hid (sameBytes_any wc vc _ _ hBc.vl (hDB.out.vl.below hbc) (by omega))
              have haC := Lib.hid (below_then haB.out hbc)
              clear kR hBc hbc hDB haB
              go_wp2_with fail
              refine kS.out.mono ?_; rintro e wd ⟨rfl, hbd⟩
              have haD := Lib.hid (below_then haC.out hbd)
              clear kS hbd haC
              go_wp2_with fail
              go_ret
              exact ⟨rfl, haD.out⟩
            · have kR := Lib.hid (records_any hLb (by rw [hr]; simp; omega) (fun b1 hb1 => by rw [hr] at hb1; have := hshort.out b1 hb1; omega))
              rw [hr] at kR
              have haB := Lib.hid hLb.acc
              replace hDB := Lib.hid hDB
              replace hvB := Lib.hid hvB
              clear hLb hr
              go_wp2_with fail
              refine kR.out.mono ?_; rintro e wc ⟨vc, rfl, hBc, hbc⟩
              have kS := Lib.hid (sameBytes_len wc vc _ _ _ hBc.vl (hDB.out.vl.below hbc) (by simp))
              have haC := Lib.hid (below_then haB.out hbc)
              have hDC := Lib.hid (hDB.out.keep (Keeps.of_below hbc))
              have hvC := Lib.hid (View.below hvB.out hbc)
              replace hBc := Lib.hid hBc
              clear kR hbc hDB hvB haB
              go_wp2_with fail
              refine kS.out.mono ?_; rintro e wd ⟨rfl, hbd⟩
              have haD := Lib.hid (below_then haC.out hbd)
              have hvD := Lib.hid (View.below hvC.out hbd)
              have hVD := Lib.hid (hBc.out.vl.below hbd)
              obtain ⟨hs, o1, o2, o3, o4, o5⟩ := hDC.out.keep (Keeps.of_below hbd)
              have o6 := Lib.hid (DR.one (w := w) o2 o3)
              have o7 := Lib.hid (View.of_own o1)
              replace o2 := Lib.hid o2
              replace o3 := Lib.hid o3
              have hsz := haD.out.size
              clear kS hbd hBc hDC hvC haC o1 o4 o5
              try (obtain ⟨Av, cv, rfl, _, _⟩ := hvD.out.cells)
              go_wp2_with (first | (at_builtin; refine wpList_append_want _ (by rfl) (.const (.slice none 0 0)) (.tmp 155) _ rfl w.heap.size 27 i0 (.slice none 0 0) 1 24 Try.underlying41 hi0 hz0 hz1 hz2 rfl (by decide) _ 0 [] rfl (World.ownsRow_nil _ _ _ _) _ LT.length _ rfl o7.out o6.out (by omega) (by simp only [maxLen]; omega) hsz ?_; intro v5 w5 hown5 hg5 hat5; rw [Nat.zero_add, List.nil_append] at hown5; obtain ⟨A5, c5, rfl, hm5, hc5, hA5⟩ := own_shape hown5; have up5 := Upd.of_grown (S := fun _ => False) hg5 (fun _ h => by cases h); have hs5 := Nat.le_trans hsz hg5.size) | (at_builtin; refine wpList_append_want _ (by rfl) (.tmp 156) (.tmp 158) _ rfl w.heap.size 27 i0 (.slice none 0 0) 1 24 Try.underlying41 hi0 hz0 hz1 hz2 rfl (by decide) _ LT.length _ rfl (hown5.alloc _) _ 1 _ rfl (View.boxAt _ _ _ _ rfl rfl) (by intro u hu; simp only [List.mem_cons, List.not_mem_nil, or_false] at hu; rcases hu with rfl; rfl) (by omega) (by simp only [maxLen]; omega) (by simp; omega) ?_; intro v6 w6 hown6 hg6 hat6))
              have hB5 : Below wd.heap.size wd w5 := (Below.refl _ _).grown hg5 (Nat.le_refl _) (fun j hj => by cases hj)
              have hB6 := (hB5.alloc hB5.size _).grown hg6 (Nat.le_trans hB5.size (by simp)) (fun j hj => by
                rcases hat5 with e | e
                · have hj2 := e.symm.trans hj; cases hj2
                · have hj2 := e.symm.trans hj; injection hj2 with hj2; omega)
              have kS := Lib.hid (sameBytes_any w6 vc _ _ (hVD.out.below hB6) (VL.snoc (View.of_own hown6) o2.out (fun i a c => View.below (o3.out i a c) hB6) (View.below hvD.out hB6)) (by simp; omega))
              have haF := Lib.hid (below_then haD.out hB6)
              clear hown5 hg5 hat5 up5 hown6 hg6 hat6 hB5 hB6 hVD hvD haD o2 o3 o6 o7
              refine kS.out.mono ?_; rintro e wg ⟨rfl, hbg⟩
              have haG := Lib.hid (below_then haF.out hbg)
              clear kS hbg haF
              go_wp2_with fail
              go_ret
              exact ⟨rfl, haG.out⟩
          | true =>
            rcases hgf.out hfb with ⟨hR, hEn⟩ | ⟨hR, hLf⟩
            · have kA := Lib.hid (lappend_good hS7.lo hgk hgS.out hgo hv7 (fun y hy => (hk7.out y hy).1) (by omega) (by omega) hgu hfb hR)
              have hSb := Lib.hid hS7
              have hEn' := Lib.hid hEn
              replace hv7 := Lib.hid hv7
              clear hS7 hfb hgf hgn hE hEn hR
              generalize (lputR D g b).1 = Dn at *
              generalize hgne : g.with b b.length = gn at *
              have hgnr : gn.recs = g.recs ++ [b] := by rw [← hgne]; rfl
              replace hgne := Lib.hid hgne
              replace hgnr := Lib.hid hgnr
              go_wp2_with fail
              refine kA.out.mono ?_; rintro e w8 ⟨rfl, hL8, hk8⟩
              have hS8 := hSb.out.call hL8 hk8
              have hv8 := hk8.view hv7.out fun y hy => (hk7.out y hy).1
              have hS9 := hS8.below ((Below.refl w8.heap.size w8).alloc (Nat.le_refl _) (.cells #[.slice A7 b.length c7] 27))
              have hv9 := Lib.hid (View.alloc hv8 (.cells #[.slice A7 b.length c7] 27))
              obtain ⟨hs, o1, o2, o3, o4, o5⟩ := hS9.dr
              have hlo := fun y (e : _ = some y) => (own_lt o1 e).1
              have hsz : w.heap.size ≤ (w8.alloc (.cells #[.slice A7 b.length c7] 27)).heap.size := hS9.lo.acc.size
              replace hS9 := Lib.hid hS9
              replace o1 := Lib.hid o1
              replace o2 := Lib.hid o2
              replace o3 := Lib.hid o3
              replace o4 := Lib.hid o4
              replace o5 := Lib.hid o5
              replace hlo := Lib.hid hlo
              have hgl : g.recs.length ≤ 12 := by omega
              clear kA hL8 hk8 hSb hv8 hv7 hS8
              go_wp2_with fail
              refine (num5_any _ 0).mono ?_; rintro x9 w9 ⟨rfl, hw1⟩
              have hw2 := hw1.symm
              subst hw2
              clear hw1
              go_wp2_with (at_builtin; refine wpList_append_view _ rfl (.tmp 137) (.tmp 139) _ rfl w.heap.size 27 i0 (.slice none 0 0) 1 24 Try.underlying41 hi0 hz0 hz1 hz2 rfl (by decide) _ g.recs.length hs rfl o1.out (.slice (some ⟨w8.heap.size, 0, none⟩) 1 1) 1 [.slice A7 b.length c7] rfl (View.boxAt _ _ _ _ rfl rfl) (by intro u hu; simp only [List.mem_cons, List.not_mem_nil, or_false] at hu; rcases hu with rfl; rfl) (by omega) (by simp only [maxLen]; omega) hsz ?_; intro v10 w10 hown10 hg10 hat10)
              obtain ⟨Kn, hSn⟩ := hS9.out.add o2.out o3.out o4.out o5.out hlo.out hg10 hown10 hat10 hv9.out hk7.out
              rw [← hgnr.out] at hSn
              replace hSn := Lib.hid hSn
              clear hown10 hg10 hat10 hS9
              go_roundw
              case rel => exact ⟨k + 1, _, _, _, _, _, by omega, rfl, rfl, by go_num, hSn.out, hEn'.out⟩
              case measure => simp [intOf]; omega
            · have kA := Lib.hid (lappend_bad hS7.lo hgk hgS.out hgo hv7 (by omega) (by omega) hgu hfb hR)
              have hSb := Lib.hid hS7
              replace hv7 := Lib.hid hv7
              clear hS7 hfb hgf hgn hE hR hgr
              generalize g.recs = LT at *
              generalize (lputR D g b).1 = Dn at *
              replace hLf := Lib.hid hLf
              go_wp2_with fail
              refine kA.out.mono ?_; rintro e w8 ⟨rfl, ⟨g', hL8⟩, hk8⟩
              have hTl := Lib.hid ((hSb.out.call hL8 hk8).tl' (hk8.view hv7.out fun y hy => (hk7.out y hy).1) fun y hy => (hk7.out y hy).1)
              clear kA hL8 hk8 hSb
              go_wp2_with fail
              refine (num5_any _ 12).mono ?_; rintro x9 w9 ⟨rfl, hw1⟩
              have hw2 := hw1.symm
              subst hw2
              clear hw1
              go_wp2_with fail
              have kX := Lib.hid (hd_crash hTl.out.hd hLf.out.ok (View.below h3.out hTl.out.hd.acc) (fun hne b hb => .inr (hkC hne b hb)) (by omega) (by have := hLf.out.few; omega))
              refine kX.out.mono ?_; rintro e wa ⟨rfl, hdA, hkA⟩
              have hDA := hTl.out.dr.keep hkA
              have hvA := hkA.view hTl.out.lv hTl.out.kl
              have kO := Lib.hid (open_any hdA (crash_ok hLf.out.ok kp) (hLf.out.fit.crash kp) 2 50 7 (by decide) (by decide) (by rw [crash_len hLf.out.ok, hLf.out.len]; decide))
              have hKl := Lib.hid hTl.out.kl
              replace hDA := Lib.hid hDA
              replace hvA := Lib.hid hvA
              clear kX hdA hkA hTl
              go_wp2_with fail
              refine kO.out.mono ?_; rintro e wb ⟨qb, gb, rfl, hOb, hLb, hkb⟩
              have hDB := hDA.out.keep hkb
              have hvB := hkb.view hvA.out hKl.out
              have hsaid := hLf.out.said kp gb hOb
              have hmany := hLf.out.many
              have hshort := Lib.hid hLf.out.short
              clear kO hkb hOb hDA hvA hLf
              rcases hsaid with hr | hr
              · have kR := Lib.hid (records_any hLb (by rw [hr]; omega) (fun b1 hb1 => by rw [hr] at hb1; have := hshort.out b1 (List.mem_append_left _ hb1); omega))
                rw [hr] at kR
                have haB := Lib.hid hLb.acc
                replace hDB := Lib.hid hDB
                clear hLb hvB hr
                go_wp2_with fail
                refine kR.out.mono ?_; rintro e wc ⟨vc, rfl, hBc, hbc⟩
                have kS := Lib.hid (sameBytes_any wc vc _ _ hBc.vl (hDB.out.vl.below hbc) (by omega))
                have haC := Lib.hid (below_then haB.out hbc)
                clear kR hBc hbc hDB haB
                go_wp2_with fail
                refine kS.out.mono ?_; rintro e wd ⟨rfl, hbd⟩
                have haD := Lib.hid (below_then haC.out hbd)
                clear kS hbd haC
                go_wp2_with fail
                go_ret
                exact ⟨rfl, haD.out⟩
              · have kR := Lib.hid (records_any hLb (by rw [hr]; simp; omega) (fun b1 hb1 => by rw [hr] at hb1; have := hshort.out b1 hb1; omega))
                rw [hr] at kR
                have haB := Lib.hid hLb.acc
                replace hDB := Lib.hid hDB
                replace hvB := Lib.hid hvB
                clear hLb hr
                go_wp2_with fail
                refine kR.out.mono ?_; rintro e wc ⟨vc, rfl, hBc, hbc⟩
                have kS := Lib.hid (sameBytes_len wc vc _ _ _ hBc.vl (hDB.out.vl.below hbc) (by simp))
                have haC := Lib.hid (below_then haB.out hbc)
                have hDC := Lib.hid (hDB.out.keep (Keeps.of_below hbc))
                have hvC := Lib.hid (View.below hvB.out hbc)
                replace hBc := Lib.hid hBc
                clear kR hbc hDB hvB haB
                go_wp2_with fail
                refine kS.out.mono ?_; rintro e wd ⟨rfl, hbd⟩
                have haD := Lib.hid (below_then haC.out hbd)
                have hvD := Lib.hid (View.below hvC.out hbd)
                have hVD := Lib.hid (hBc.out.vl.below hbd)
                obtain ⟨hs, o1, o2, o3, o4, o5⟩ := hDC.out.keep (Keeps.of_below hbd)
                have o6 := Lib.hid (DR.one (w := w) o2 o3)
                have o7 := Lib.hid (View.of_own o1)
                replace o2 := Lib.hid o2
                replace o3 := Lib.hid o3
                have hsz := haD.out.size
                clear kS hbd hBc hDC hvC haC o1 o4 o5
                try (obtain ⟨Av, cv, rfl, _, _⟩ := hvD.out.cells)
                go_wp2_with (first | (at_builtin; refine wpList_append_want _ (by rfl) (.const (.slice none 0 0)) (.tmp 155) _ rfl w.heap.size 27 i0 (.slice none 0 0) 1 24 Try.underlying41 hi0 hz0 hz1 hz2 rfl (by decide) _ 0 [] rfl (World.ownsRow_nil _ _ _ _) _ LT.length _ rfl o7.out o6.out (by omega) (by simp only [maxLen]; omega) hsz ?_; intro v5 w5 hown5 hg5 hat5; rw [Nat.zero_add, List.nil_append] at hown5; obtain ⟨A5, c5, rfl, hm5, hc5, hA5⟩ := own_shape hown5; have up5 := Upd.of_grown (S := fun _ => False) hg5 (fun _ h => by cases h); have hs5 := Nat.le_trans hsz hg5.size) | (at_builtin; refine wpList_append_want _ (by rfl) (.tmp 156) (.tmp 158) _ rfl w.heap.size 27 i0 (.slice none 0 0) 1 24 Try.underlying41 hi0 hz0 hz1 hz2 rfl (by decide) _ LT.length _ rfl (hown5.alloc _) _ 1 _ rfl (View.boxAt _ _ _ _ rfl rfl) (by intro u hu; simp only [List.mem_cons, List.not_mem_nil, or_false] at hu; rcases hu with rfl; rfl) (by omega) (by simp only [maxLen]; omega) (by simp; omega) ?_; intro v6 w6 hown6 hg6 hat6))
                have hB5 : Below wd.heap.size wd w5 := (Below.refl _ _).grown hg5 (Nat.le_refl _) (fun j hj => by cases hj)
                have hB6 := (hB5.alloc hB5.size _).grown hg6 (Nat.le_trans hB5.size (by simp)) (fun j hj => by
                  rcases hat5 with e | e
                  · have hj2 := e.symm.trans hj; cases hj2
                  · have hj2 := e.symm.trans hj; injection hj2 with hj2; omega)
                have kS := Lib.hid (sameBytes_any w6 vc _ _ (hVD.out.below hB6) (VL.snoc (View.of_own hown6) o2.out (fun i a c => View.below (o3.out i a c) hB6) (View.below hvD.out hB6)) (by simp; omega))
                have haF := Lib.hid (below_then haD.out hB6)
                clear hown5 hg5 hat5 up5 hown6 hg6 hat6 hB5 hB6 hVD hvD haD o2 o3 o6 o7
                refine kS.out.mono ?_; rintro e wg ⟨rfl, hbg⟩
                have haG := Lib.hid (below_then haF.out hbg)
                clear kS hbg haF
                go_wp2_with fail
                go_ret
                exact ⟨rfl, haG.out⟩
        · obtain rfl : k = l.length := by omega
          have q1 : ¬ (l.length : Int) < (l.length : Int) := by omega
          have hTl := Lib.hid hS.tl
          have hLf := Lib.hid (hE.none (by omega) noneL (by decide)).1
          generalize g.recs = LT at *
          clear hS hE
          go_wp2_with fail
          have kX := Lib.hid (hd_crash hTl.out.hd hLf.out.ok (View.below h3.out hTl.out.hd.acc) (fun hne b hb => .inr (hkC hne b hb)) (by omega) (by have := hLf.out.few; omega))
          refine kX.out.mono ?_; rintro e wa ⟨rfl, hdA, hkA⟩
          have hDA := hTl.out.dr.keep hkA
          have hvA := hkA.view hTl.out.lv hTl.out.kl
          have kO := Lib.hid (open_any hdA (crash_ok hLf.out.ok kp) (hLf.out.fit.crash kp) 2 50 7 (by decide) (by decide) (by rw [crash_len hLf.out.ok, hLf.out.len]; decide))
          have hKl := Lib.hid hTl.out.kl
          replace hDA := Lib.hid hDA
          replace hvA := Lib.hid hvA
          clear kX hdA hkA hTl
          go_wp2_with fail
          refine kO.out.mono ?_; rintro e wb ⟨qb, gb, rfl, hOb, hLb, hkb⟩
          have hDB := hDA.out.keep hkb
          have hvB := hkb.view hvA.out hKl.out
          have hsaid := hLf.out.said kp gb hOb
          have hmany := hLf.out.many
          have hshort := Lib.hid hLf.out.short
          clear kO hkb hOb hDA hvA hLf
          rcases hsaid with hr | hr
          · have kR := Lib.hid (records_any hLb (by rw [hr]; omega) (fun b1 hb1 => by rw [hr] at hb1; have := hshort.out b1 (List.mem_append_left _ hb1); omega))
            rw [hr] at kR
            have haB := Lib.hid hLb.acc
            replace hDB := Lib.hid hDB
            clear hLb hvB hr
            go_wp2_with fail
            refine kR.out.mono ?_; rintro e wc ⟨vc, rfl, hBc, hbc⟩
            have kS := Lib.hid (sameBytes_any wc vc _ _ hBc.vl (hDB.out.vl.below hbc) (by omega))
            have haC := Lib.hid (below_then haB.out hbc)
            clear kR hBc hbc hDB haB
            go_wp2_with fail
            refine kS.out.mono ?_; rintro e wd ⟨rfl, hbd⟩
            have haD := Lib.hid (below_then haC.out hbd)
            clear kS hbd haC
            go_wp2_with fail
            go_ret
            exact ⟨rfl, haD.out⟩
          · have kR := Lib.hid (records_any hLb (by rw [hr]; simp; omega) (fun b1 hb1 => by rw [hr] at hb1; have := hshort.out b1 hb1; omega))
            rw [hr] at kR
            have haB := Lib.hid hLb.acc
            replace hDB := Lib.hid hDB
            replace hvB := Lib.hid hvB
            clear hLb hr
            go_wp2_with fail
            refine kR.out.mono ?_; rintro e wc ⟨vc, rfl, hBc, hbc⟩
            have kS := Lib.hid (sameBytes_len wc vc _ _ _ hBc.vl (hDB.out.vl.below hbc) (by simp))
            have haC := Lib.hid (below_then haB.out hbc)
            have hDC := Lib.hid (hDB.out.keep (Keeps.of_below hbc))
            have hvC := Lib.hid (View.below hvB.out hbc)
            replace hBc := Lib.hid hBc
            clear kR hbc hDB hvB haB
            go_wp2_with fail
            refine kS.out.mono ?_; rintro e wd ⟨rfl, hbd⟩
            have haD := Lib.hid (below_then haC.out hbd)
            have hvD := Lib.hid (View.below hvC.out hbd)
            have hVD := Lib.hid (hBc.out.vl.below hbd)
            obtain ⟨hs, o1, o2, o3, o4, o5⟩ := hDC.out.keep (Keeps.of_below hbd)
            have o6 := Lib.hid (DR.one (w := w) o2 o3)
            have o7 := Lib.hid (View.of_own o1)
            replace o2 := Lib.hid o2
            replace o3 := Lib.hid o3
            have hsz := haD.out.size
            clear kS hbd hBc hDC hvC haC o1 o4 o5
            try (obtain ⟨Av, cv, rfl, _, _⟩ := hvD.out.cells)
            go_wp2_with (first | (at_builtin; refine wpList_append_want _ (by rfl) (.const (.slice none 0 0)) (.tmp 155) _ rfl w.heap.size 27 i0 (.slice none 0 0) 1 24 Try.underlying41 hi0 hz0 hz1 hz2 rfl (by decide) _ 0 [] rfl (World.ownsRow_nil _ _ _ _) _ LT.length _ rfl o7.out o6.out (by omega) (by simp only [maxLen]; omega) hsz ?_; intro v5 w5 hown5 hg5 hat5; rw [Nat.zero_add, List.nil_append] at hown5; obtain ⟨A5, c5, rfl, hm5, hc5, hA5⟩ := own_shape hown5; have up5 := Upd.of_grown (S := fun _ => False) hg5 (fun _ h => by cases h); have hs5 := Nat.le_trans hsz hg5.size) | (at_builtin; refine wpList_append_want _ (by rfl) (.tmp 156) (.tmp 158) _ rfl w.heap.size 27 i0 (.slice none 0 0) 1 24 Try.underlying41 hi0 hz0 hz1 hz2 rfl (by decide) _ LT.length _ rfl (hown5.alloc _) _ 1 _ rfl (View.boxAt _ _ _ _ rfl rfl) (by intro u hu; simp only [List.mem_cons, List.not_mem_nil, or_false] at hu; rcases hu with rfl; rfl) (by omega) (by simp only [maxLen]; omega) (by simp; omega) ?_; intro v6 w6 hown6 hg6 hat6))
            have hB5 : Below wd.heap.size wd w5 := (Below.refl _ _).grown hg5 (Nat.le_refl _) (fun j hj => by cases hj)
            have hB6 := (hB5.alloc hB5.size _).grown hg6 (Nat.le_trans hB5.size (by simp)) (fun j hj => by
              rcases hat5 with e | e
              · have hj2 := e.symm.trans hj; cases hj2
              · have hj2 := e.symm.trans hj; injection hj2 with hj2; omega)
            have kS := Lib.hid (sameBytes_any w6 vc _ _ (hVD.out.below hB6) (VL.snoc (View.of_own hown6) o2.out (fun i a c => View.below (o3.out i a c) hB6) (View.below hvD.out hB6)) (by simp; omega))
            have haF := Lib.hid (below_then haD.out hB6)
            clear hown5 hg5 hat5 up5 hown6 hg6 hat6 hB5 hB6 hVD hvD haD o2 o3 o6 o7
            refine kS.out.mono ?_; rintro e wg ⟨rfl, hbg⟩
            have haG := Lib.hid (below_then haF.out hbg)
            clear kS hbg haF
            go_wp2_with fail
            go_ret
            exact ⟨rfl, haG.out⟩
theorem logKeeps_walk (W : World) (A : Option Addr) (n c : Nat) (x : (Kd.sl 3 (.int .i64)).T) (z : Rd Try.prog W (.sl 3 (.int .i64)) [.slice A n c] x) (A2 : Option Addr) (n2 c2 : Nat) (x2 : (Kd.sl 3 (.int .i64)).T) (z2 : Rd Try.prog W (.sl 3 (.int .i64)) [.slice A2 n2 c2] x2) (left : Int) (hl : (Lit.int .i64 left).wf = true) (A3 : Option Addr) (n3 c3 : Nat) (x3 : (Kd.sl 4 .bool).T) (z3 : Rd Try.prog W (.sl 4 .bool) [.slice A3 n3 c3] x3) :
    Calls Try.prog 14 #[.slice A n c, .slice A2 n2 c2, .int .i64 left, .slice A3 n3 c3] W fun e w' => e = .returned (.bool true) ∧ Below W.heap.size W w' := by
  have hv := rd_view_flat rfl z
  obtain ⟨A', c', e, _, _⟩ := View.cells hv
  injection e with e1 e2 e3
  subst e1 e2 e3
  rw [int_enc x] at hv
  have hv2 := rd_view_flat rfl z2
  obtain ⟨A', c', e, _, _⟩ := View.cells hv2
  injection e with e1 e2 e3
  subst e1 e2 e3
  rw [int_enc x2] at hv2
  have hv3 := rd_view_flat rfl z3
  obtain ⟨A', c', e, _, _⟩ := View.cells hv3
  injection e with e1 e2 e3
  subst e1 e2 e3
  rw [bool_enc x3] at hv3
  refine keeps_core W A A2 A3 c c2 c3 x x2 x3 left ?_ hv hv2 hv3
  have h9 : IntKind.i64.min ≤ left ∧ left ≤ IntKind.i64.max := by simpa [Lit.wf] using hl
  have h8 : IntKind.i64.max = 9223372036854775807 := by rfl
  omega
end Go.Proofs.Ytbfcaapompkjhaa
