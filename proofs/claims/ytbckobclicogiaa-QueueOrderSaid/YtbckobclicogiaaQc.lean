/-
  order.Msgs, queue.Add and queue.Cut, each by its contract; postelaw15.alive.
-/
import Derived.Test.YtbckobclicogiaaQb
import Derived.Test.YtbckobclicogiaaIm
import Derived.Test.YtbckobclicogiaaMv
import Derived.Test.YtbckobclicogiaaTill
import Derived.Test.YtbckobclicogiaaMk
import Derived.Deep.RegionHeld3
import Derived.Deep.DeepCutAuto
set_option linter.unusedVariables false
set_option linter.unusedSimpArgs false
namespace Go.Proofs.Ytbckobclicogiaa
open Go.RowKit Go.Proofs.PosteMem

theorem isNaN_int (a : Int) (w : World) : Calls Try.prog 68 #[.int .i64 a] w fun e w' => e = .returned (.bool false) ∧ w = w' := by
  go_enter Try.func68, Try.ntmps68
  go_wp2
  go_ret
  exact ⟨by simp, rfl⟩
def cmpI (a b : Int) : Int := if a < b then -1 else if b < a then 1 else 0
set_option maxHeartbeats 1000000 in
theorem compare_int (a b : Int) (w : World) : Calls Try.prog 65 #[.int .i64 a, .int .i64 b] w fun e w' => e = .returned (.int .i64 (cmpI a b)) ∧ w = w' := by
  have h : (a < b ∧ cmpI a b = -1) ∨ (b < a ∧ cmpI a b = 1) ∨ (¬ a < b ∧ ¬ b < a ∧ cmpI a b = 0) := by
    unfold cmpI; by_cases h1 : a < b
    · exact .inl ⟨h1, by simp [h1]⟩
    · by_cases h2 : b < a
      · exact .inr (.inl ⟨h2, by simp [h1, h2]⟩)
      · exact .inr (.inr ⟨h1, h2, by simp [h1, h2]⟩)
  rcases h with ⟨h1, h⟩ | ⟨h1, h⟩ | ⟨h1, h2, h⟩
  all_goals
    rw [h]; clear h
    go_enter Try.func65, Try.ntmps65
    go_wp2_with (go_at_call 68; refine (isNaN_int _ _).mono ?_; rintro e w' ⟨rfl, rfl⟩)
    go_ret
    exact ⟨rfl, rfl⟩

def orI (x y : Int) : Int := if x = 0 then y else x
set_option maxHeartbeats 1000000 in
theorem or_two (x y : Int) (b : Nat) (w : World) (h0 : w.cell? ⟨b, 0, none⟩ = some (.int .i64 x)) (h1 : w.cell? ⟨b, 1, none⟩ = some (.int .i64 y)) :
    Calls Try.prog 64 #[.slice (some ⟨b, 0, none⟩) 2 2] w fun e w' => e = .returned (.int .i64 (orI x y)) ∧ w = w' := by
  unfold orI
  by_cases hx : x = 0
  · subst hx
    by_cases hy : y = 0
    · subst hy
      go_enter Try.func64, Try.ntmps64
      go_wp2
      go_rounds 3
      go_ret; exact ⟨rfl, rfl⟩
    · have hy' : (y != 0) = true := by simpa using hy
      go_enter Try.func64, Try.ntmps64
      go_wp2
      go_rounds 3
      go_ret; exact ⟨rfl, rfl⟩
  · rw [if_neg hx]
    have hx' : (x != 0) = true := by simpa using hx
    clear hx
    go_enter Try.func64, Try.ntmps64
    go_wp2
    go_rounds 3
    go_ret; exact ⟨rfl, rfl⟩

/-- The order of messages. -/
def ordM (x y : Msg) : Int := orI (cmpI x.pri y.pri) (cmpI x.id y.id)
set_option maxHeartbeats 2000000 in
theorem msgs_any (x y : Msg) (w : World) : Calls Try.prog 57 #[.agg x.cells.toArray, .agg y.cells.toArray] w fun e w' => e = .returned (.int .i64 (ordM x y)) ∧ Below w.heap.size w w' := by
  unfold Msg.cells ordM
  go_enter Try.func57, Try.ntmps57
  go_wp2
  go_region_held3 (fun w' => w'.cell? ⟨w.heap.size, 0, none⟩ = some (.int .i64 x.id) ∧ w'.cell? ⟨w.heap.size, 1, none⟩ = some (.int .i64 x.pri) ∧ w'.cell? ⟨w.heap.size + 1, 0, none⟩ = some (.int .i64 y.id) ∧ w'.cell? ⟨w.heap.size + 1, 1, none⟩ = some (.int .i64 y.pri)) (go_keep) (first | (go_at_call 65; refine (compare_int _ _ _).mono ?_; rintro e w' ⟨rfl, rfl⟩) | (go_at_call 64; refine (or_two (cmpI x.pri y.pri) (cmpI x.id y.id) _ _ (by go_simp) (by go_simp)).mono ?_; rintro e w' ⟨rfl, rfl⟩))
  go_wp2
  go_ret
  exact ⟨rfl, by go_grown⟩

/-- x stands behind m. -/
def behind (m x : Msg) : Bool := decide (0 < ordM x m)
/-- Messages with m in its place. -/
def addM (L : List Msg) (m : Msg) : List Msg := L.take (L.findIdx (behind m)) ++ m :: L.drop (L.findIdx (behind m))

set_option maxRecDepth 100000 in
set_option maxHeartbeats 4000000 in
theorem add_any (w : World) (v : Value) (L : List Msg) (m : Msg) (h : VMsgs w v L) (hm : L.length ≤ 1000000) :
    Calls Try.prog 32 #[v, .agg m.cells.toArray] w fun e w' => ∃ v', e = .returned v' ∧ OMsgs w' w.heap.size v' (addM L m) ∧ Below w.heap.size w w' := by
  have eg := Go.Proofs.enters_of Try.func56 (by kernel_rfl) rfl
  have hw := Whole.new w 34 m.cells.toArray
  obtain ⟨m1, m2, m3, m4, m5, m6⟩ := m
  have hsz : (w.alloc (.cells #[.int .i64 m1, .int .i64 m2, .int .i64 m3, .bool m4, .string m5, .string m6] 34)).heap.size = w.heap.size + 1 := by simp
  have hcl : ∀ (W : World) (x : Msg), Below (w.alloc (.cells (Msg.cells ⟨m1, m2, m3, m4, m5, m6⟩).toArray 34)).heap.size (w.alloc (.cells (Msg.cells ⟨m1, m2, m3, m4, m5, m6⟩).toArray 34)) W → Calls Try.prog 56 (#[.agg x.cells.toArray] ++ #[.pointer (some ⟨w.heap.size, 0, none⟩)]) W fun e w' => e = .returned (.bool (behind ⟨m1, m2, m3, m4, m5, m6⟩ x)) ∧ Below (w.alloc (.cells (Msg.cells ⟨m1, m2, m3, m4, m5, m6⟩).toArray 34)).heap.size (w.alloc (.cells (Msg.cells ⟨m1, m2, m3, m4, m5, m6⟩).toArray 34)) w' := by
    intro W x hb
    have hwW := hw.below hb
    have c0 := hwW.cell 0
    have c1 := hwW.cell 1
    have c2 := hwW.cell 2
    have c3 := hwW.cell 3
    have c4 := hwW.cell 4
    have c5 := hwW.cell 5
    have hlt : w.heap.size < W.heap.size := by have := hb.size; simp at this; omega
    have hb2 := Lib.hid (hb.alloc hb.size (.cells x.cells.toArray 34))
    have hms := Lib.hid (fun W' => msgs_any x ⟨m1, m2, m3, m4, m5, m6⟩ W')
    obtain ⟨i1, p1, r1, x1, a1, b1⟩ := x
    unfold behind
    unfold Msg.cells at *
    simp only at *
    generalize ordM ⟨i1, p1, r1, x1, a1, b1⟩ ⟨m1, m2, m3, m4, m5, m6⟩ = r at *
    clear hb hw hwW
    go_enter Try.func56, Try.ntmps56
    go_wp2_with (go_at_call 57; refine (hms.out _).mono ?_; rintro e w4 ⟨rfl, hb4⟩)
    go_ret
    exact ⟨rfl, hb2.out.trans (hb4.mono (by have := hb2.out.size; simp at this; simp; omega))⟩
  have hb0 : Below w.heap.size w (w.alloc (.cells #[.int .i64 m1, .int .i64 m2, .int .i64 m3, .bool m4, .string m5, .string m6] 34)) := (Below.refl _ _).alloc (Nat.le_refl _) _
  have hix := indexFunc_any (behind ⟨m1, m2, m3, m4, m5, m6⟩) 56 #[.pointer (some ⟨w.heap.size, 0, none⟩)] eg (w.alloc (.cells (Msg.cells ⟨m1, m2, m3, m4, m5, m6⟩).toArray 34)) v L (View.alloc h _) hm hcl
  clear hcl
  unfold addM
  have hp : L.findIdx (behind ⟨m1, m2, m3, m4, m5, m6⟩) ≤ L.length := List.findIdx_le_length
  unfold idxI at hix
  generalize L.findIdx (behind ⟨m1, m2, m3, m4, m5, m6⟩) = p at *
  obtain ⟨A, cap, rfl, hc, hcm⟩ := h.cells
  replace h := Lib.hid (View.alloc h (.cells #[.int .i64 m1, .int .i64 m2, .int .i64 m3, .bool m4, .string m5, .string m6] 34))
  unfold Msg.cells at *
  simp only at *
  rcases (show p < L.length ∨ p = L.length by omega) with hlt | rfl
  all_goals
    first | rw [if_pos hlt] at hix | rw [if_neg (Nat.lt_irrefl _)] at hix
    replace hix := Lib.hid hix
    go_enter Try.func32, Try.ntmps32
    go_wp2_with (go_at_call 53; refine hix.out.mono ?_; rintro e w1 ⟨rfl, hb1⟩)
    have hv1 := Lib.hid (View.below h.out hb1)
    have hB := below_then hb0 hb1
    have hb1s := hB.size
    have hlt1 : w.heap.size < w1.heap.size := by have := hb1.size; omega
    have hwW := hw.below hb1
    have hS : ∀ W, Below w1.heap.size w1 W → (W.cell? ⟨w.heap.size, 0, none⟩ = some (.int .i64 m1) ∧ W.cell? ⟨w.heap.size, 1, none⟩ = some (.int .i64 m2) ∧ W.cell? ⟨w.heap.size, 2, none⟩ = some (.int .i64 m3) ∧ W.cell? ⟨w.heap.size, 3, none⟩ = some (.bool m4) ∧ W.cell? ⟨w.heap.size, 4, none⟩ = some (.string m5) ∧ W.cell? ⟨w.heap.size, 5, none⟩ = some (.string m6)) := fun W hW =>
      ⟨(hwW.below hW).cell 0, (hwW.below hW).cell 1, (hwW.below hW).cell 2, (hwW.below hW).cell 3, (hwW.below hW).cell 4, (hwW.below hW).cell 5⟩
    replace hS := Lib.hid hS
    replace hb1 := Lib.hid hB
    clear hwW hB
    go_upto_region 4 with fail
    refine tl_begin (fun (w' : World) => (w'.cell? ⟨w.heap.size, 0, none⟩ = some (.int .i64 m1) ∧ w'.cell? ⟨w.heap.size, 1, none⟩ = some (.int .i64 m2) ∧ w'.cell? ⟨w.heap.size, 2, none⟩ = some (.int .i64 m3) ∧ w'.cell? ⟨w.heap.size, 3, none⟩ = some (.bool m4) ∧ w'.cell? ⟨w.heap.size, 4, none⟩ = some (.string m5) ∧ w'.cell? ⟨w.heap.size, 5, none⟩ = some (.string m6))) [] (by kernel_rfl) (hS.out _ (by first | exact Below.drew (Below.refl _ _))) (fun hHeld => ?_)
    refine tl_p (i := 0) (v := ?_) rfl (by rfl) (by kernel_rfl) (by kernel_rfl) (by kernel_rfl) (fun _ _ _ h => h) (by rfl) hHeld ?_ ?_
    rotate_left
    · intro w
      go_simp
      try (with_reducible rfl)
    try simp only [Act.put, List.setIfInBounds_toArray, List.set_cons_zero, List.set_cons_succ]
    refine tl_p (i := 2) (v := ?_) rfl (by rfl) (by kernel_rfl) (by kernel_rfl) (by kernel_rfl) (fun _ _ _ h => h) (by rfl) hHeld ?_ ?_
    rotate_left
    · intro w
      go_simp
      try (with_reducible rfl)
    try simp only [Act.put, List.setIfInBounds_toArray, List.set_cons_zero, List.set_cons_succ]
    refine tl_w (i := 3) (v := ?_) rfl (by rfl) (by kernel_rfl) (by kernel_rfl) (by kernel_rfl) (by kernel_rfl) (by kernel_rfl) (fun _ _ _ h => h) (by rfl) hHeld ?_ ?_
    rotate_left
    · intro w hSw
      try dsimp only at hSw
      go_simp
      try (with_reducible rfl)
    try simp only [Act.put, List.setIfInBounds_toArray, List.set_cons_zero, List.set_cons_succ]
    refine tl_two (i := 1) (j := 4) rfl rfl (by kernel_rfl) (by rfl) (by rfl) (fun K hK => ?_) (fun K hK => ?_)
    · go_simp
      go_at_call 52
      first
        | (refine (cloneMsg w1.drew _ L (View.below hv1.out (Below.drew (Below.refl _ _))) hm).mono ?_; rintro e w2 ⟨v2, rfl, ho2, hb2⟩
           have hbe := Lib.hid (below_then (Below.drew (Below.refl w1.heap.size w1)) hb2))
        | (refine (cloneMsg (w1.alloc (.cells #[.int .i64 m1, .int .i64 m2, .int .i64 m3, .bool m4, .string m5, .string m6] 34)).drew _ L (View.below hv1.out (Below.drew ((Below.refl _ _).alloc (Nat.le_refl _) _))) hm).mono ?_; rintro e w2 ⟨v2, rfl, ho2, hb2⟩
           have hbe := Lib.hid (below_then (Below.drew ((Below.refl w1.heap.size w1).alloc (Nat.le_refl _) (.cells #[.int .i64 m1, .int .i64 m2, .int .i64 m3, .bool m4, .string m5, .string m6] 34))) hb2)
           replace hX := Lib.hid (hX.out.below hb2))
      have hO := Lib.hid ho2
      obtain ⟨A2, c2, rfl, _, _, _⟩ := own_shape ho2
      try go_wp2_with fail
      refine hK.out _ _ (hS.out _ hbe.out) (fun hHeld1 => ?_)
      clear hK K hHeld
      have hHeld := hHeld1
      clear hHeld1
      try simp only [Act.put, List.setIfInBounds_toArray, List.set_cons_zero, List.set_cons_succ]
      refine tl_do (i := 4) rfl (by kernel_rfl) (by rfl) (fun K hK => ?_)
      first
        | have hX := Lib.hid (Whole.new w2 34 #[.int .i64 m1, .int .i64 m2, .int .i64 m3, .bool m4, .string m5, .string m6])
        | have hX := Lib.hid (Whole.new w1.drew 34 #[.int .i64 m1, .int .i64 m2, .int .i64 m3, .bool m4, .string m5, .string m6])
      go_simp
      refine hK.out _ _ (hS.out _ (by first | exact hbe.out.alloc hbe.out.size _ | exact Below.drew ((Below.refl _ w1).alloc (Nat.le_refl _) _))) (fun hHeld1 => ?_)
      clear hK K hHeld
      have hHeld := hHeld1
      clear hHeld1
      try simp only [Act.put, List.setIfInBounds_toArray, List.set_cons_zero, List.set_cons_succ]
      refine tl_do (i := 5) rfl (by kernel_rfl) (by rfl) (fun K hK => ?_)
      go_simp
      go_at_call 58
      first
        | (refine (insert_any (w2.alloc (.cells #[.int .i64 m1, .int .i64 m2, .int .i64 m3, .bool m4, .string m5, .string m6] 34)) w1.heap.size _ L _ ⟨m1, m2, m3, m4, m5, m6⟩ _ (own_mono (own_below hO.out ((Below.refl _ _).alloc (Nat.le_refl _) _)) (by simp)) hm (by first | exact hp | exact Nat.le_refl _) hX.out (by have := hbe.out.size; simp; omega) (fun e => by have := (hO.out.lt _ e).2; omega)).mono ?_; rintro e w4 ⟨v4, rfl, ho4, hb4⟩
           have hB4 := Lib.hid ((hbe.out.alloc hbe.out.size _).trans hb4))
        | (refine (insert_any w2 w1.heap.size _ L _ ⟨m1, m2, m3, m4, m5, m6⟩ _ (own_mono hO.out (by simp)) hm (by first | exact hp | exact Nat.le_refl _) hX.out hbe.out.size (fun e => by have := (hO.out.lt _ e).1; simp at this; omega)).mono ?_; rintro e w4 ⟨v4, rfl, ho4, hb4⟩
           have hB4 := Lib.hid (hbe.out.trans hb4))
      replace ho4 := Lib.hid ho4
      try go_wp2_with fail
      refine hK.out _ _ (hS.out _ hB4.out) (fun hHeld1 => ?_)
      clear hK K hHeld
      have hHeld := hHeld1
      clear hHeld1
      try simp only [Act.put, List.setIfInBounds_toArray, List.set_cons_zero, List.set_cons_succ]
      refine tl_p (i := 6) (v := ?_) rfl (by rfl) (by kernel_rfl) (by kernel_rfl) (by kernel_rfl) (fun _ _ _ h => h) (by rfl) hHeld ?_ ?_
      rotate_left
      · intro w
        go_simp
        try (with_reducible rfl)
      try simp only [Act.put, List.setIfInBounds_toArray, List.set_cons_zero, List.set_cons_succ]
      refine till_done (by kernel_rfl) ?_ _
      go_wp2_with fail
      go_ret
      exact ⟨_, rfl, own_mono ho4.out hb1s, below_then hb1.out hB4.out⟩
    · first
        | have hX := Lib.hid (Whole.new w2 34 #[.int .i64 m1, .int .i64 m2, .int .i64 m3, .bool m4, .string m5, .string m6])
        | have hX := Lib.hid (Whole.new w1.drew 34 #[.int .i64 m1, .int .i64 m2, .int .i64 m3, .bool m4, .string m5, .string m6])
      go_simp
      refine hK.out _ _ (hS.out _ (by first | exact hbe.out.alloc hbe.out.size _ | exact Below.drew ((Below.refl _ w1).alloc (Nat.le_refl _) _))) (fun hHeld1 => ?_)
      clear hK K hHeld
      have hHeld := hHeld1
      clear hHeld1
      try simp only [Act.put, List.setIfInBounds_toArray, List.set_cons_zero, List.set_cons_succ]
      refine tl_do (i := 1) rfl (by kernel_rfl) (by rfl) (fun K hK => ?_)
      go_simp
      go_at_call 52
      first
        | (refine (cloneMsg w1.drew _ L (View.below hv1.out (Below.drew (Below.refl _ _))) hm).mono ?_; rintro e w2 ⟨v2, rfl, ho2, hb2⟩
           have hbe := Lib.hid (below_then (Below.drew (Below.refl w1.heap.size w1)) hb2))
        | (refine (cloneMsg (w1.alloc (.cells #[.int .i64 m1, .int .i64 m2, .int .i64 m3, .bool m4, .string m5, .string m6] 34)).drew _ L (View.below hv1.out (Below.drew ((Below.refl _ _).alloc (Nat.le_refl _) _))) hm).mono ?_; rintro e w2 ⟨v2, rfl, ho2, hb2⟩
           have hbe := Lib.hid (below_then (Below.drew ((Below.refl w1.heap.size w1).alloc (Nat.le_refl _) (.cells #[.int .i64 m1, .int .i64 m2, .int .i64 m3, .bool m4, .string m5, .string m6] 34))) hb2)
           replace hX := Lib.hid (hX.out.below hb2))
      have hO := Lib.hid ho2
      obtain ⟨A2, c2, rfl, _, _, _⟩ := own_shape ho2
      try go_wp2_with fail
      refine hK.out _ _ (hS.out _ hbe.out) (fun hHeld1 => ?_)
      clear hK K hHeld
      have hHeld := hHeld1
      clear hHeld1
      try simp only [Act.put, List.setIfInBounds_toArray, List.set_cons_zero, List.set_cons_succ]
      refine tl_do (i := 5) rfl (by kernel_rfl) (by rfl) (fun K hK => ?_)
      go_simp
      go_at_call 58
      first
        | (refine (insert_any (w2.alloc (.cells #[.int .i64 m1, .int .i64 m2, .int .i64 m3, .bool m4, .string m5, .string m6] 34)) w1.heap.size _ L _ ⟨m1, m2, m3, m4, m5, m6⟩ _ (own_mono (own_below hO.out ((Below.refl _ _).alloc (Nat.le_refl _) _)) (by simp)) hm (by first | exact hp | exact Nat.le_refl _) hX.out (by have := hbe.out.size; simp; omega) (fun e => by have := (hO.out.lt _ e).2; omega)).mono ?_; rintro e w4 ⟨v4, rfl, ho4, hb4⟩
           have hB4 := Lib.hid ((hbe.out.alloc hbe.out.size _).trans hb4))
        | (refine (insert_any w2 w1.heap.size _ L _ ⟨m1, m2, m3, m4, m5, m6⟩ _ (own_mono hO.out (by simp)) hm (by first | exact hp | exact Nat.le_refl _) hX.out hbe.out.size (fun e => by have := (hO.out.lt _ e).1; simp at this; omega)).mono ?_; rintro e w4 ⟨v4, rfl, ho4, hb4⟩
           have hB4 := Lib.hid (hbe.out.trans hb4))
      replace ho4 := Lib.hid ho4
      try go_wp2_with fail
      refine hK.out _ _ (hS.out _ hB4.out) (fun hHeld1 => ?_)
      clear hK K hHeld
      have hHeld := hHeld1
      clear hHeld1
      try simp only [Act.put, List.setIfInBounds_toArray, List.set_cons_zero, List.set_cons_succ]
      refine tl_p (i := 6) (v := ?_) rfl (by rfl) (by kernel_rfl) (by kernel_rfl) (by kernel_rfl) (fun _ _ _ h => h) (by rfl) hHeld ?_ ?_
      rotate_left
      · intro w
        go_simp
        try (with_reducible rfl)
      try simp only [Act.put, List.setIfInBounds_toArray, List.set_cons_zero, List.set_cons_succ]
      refine till_done (by kernel_rfl) ?_ _
      go_wp2_with fail
      go_ret
      exact ⟨_, rfl, own_mono ho4.out hb1s, below_then hb1.out hB4.out⟩

set_option maxRecDepth 100000 in
set_option maxHeartbeats 4000000 in
theorem cut_any (w : World) (v : Value) (L : List Msg) (id : Int) (h : VMsgs w v L) (hm : L.length ≤ 1000000) (k : Nat) (hk : k < L.length) (hi : idxI (byId id) L = k) :
    Calls Try.prog 35 #[v, .int .i64 id] w fun e w' => ∃ v', e = .returned (.tuple #[v', .bool true]) ∧ OMsgs w' w.heap.size v' (L.eraseIdx k) ∧ Below w.heap.size w w' := by
  replace h := Lib.hid h
  replace hi := Lib.hid hi
  go_enter Try.func35, Try.ntmps35
  go_wp2_with fail
  refine (find_any _ _ L _ h.out (by omega)).mono ?_; rintro e w1 ⟨rfl, hb1⟩
  have h1 := Lib.hid (View.below h.out hb1)
  rw [hi.out]
  go_wp2_with fail
  refine (cloneMsg _ _ L h1.out (by omega)).mono ?_; rintro e w2 ⟨v2, rfl, ho2, hb2⟩
  have hb2' := below_then hb1 hb2
  have q1 : IntKind.i64.wrap ((k : Int) + 1) = (k : Int) + 1 := by rw [IntKind.wrap_i64]; omega
  go_wp2_with fail
  refine (delete_any _ _ _ L k ho2 hk (by omega)).mono ?_; rintro e w3 ⟨v3, rfl, ho3, hu3, hv3⟩
  have hb3 := hb2'.trans (hu3.below hb2'.size (fun b he => by have := (ho2.lt b he).1; have := hb1.size; omega))
  have hf : OMsgs w3 w.heap.size v3 (L.eraseIdx k) := own_mono ho3 hb1.size
  replace hf := Lib.hid hf
  replace ho3 := Lib.hid ho3
  go_wp2_with fail
  go_ret2
  exact ⟨_, rfl, hf.out, hb3⟩

set_option maxRecDepth 100000 in
set_option maxHeartbeats 4000000 in
theorem alive15 (w : World) : Calls Try.prog 28 #[] w fun e w' => e = .returned (.bool true) ∧ Below w.heap.size w w' := by
  have e1 : idxI unclaimed [] = -1 := rfl
  have e2 : idxI unclaimed [⟨3, 0, 0, false, ⟨#[]⟩, ⟨#[]⟩⟩] = 0 := rfl
  have e3 : idxI (byId 3) [⟨3, 0, 0, false, ⟨#[]⟩, ⟨#[]⟩⟩] = 0 := rfl
  have k0 := Lib.hid (fun W => add_any W (.slice none 0 0) [] ⟨3, 0, 0, false, ⟨#[]⟩, ⟨#[]⟩⟩ (View.nil _ _) (by simp))
  have e4 : addM [] ⟨3, 0, 0, false, ⟨#[]⟩, ⟨#[]⟩⟩ = [⟨3, 0, 0, false, ⟨#[]⟩, ⟨#[]⟩⟩] := rfl
  rw [e4] at k0
  unfold Msg.cells at k0
  simp only at k0
  go_enter Try.func28, Try.ntmps28
  go_wp2_with fail
  refine (k0.out _).mono ?_; rintro e w1 ⟨v1, rfl, ho1, hb1⟩
  obtain ⟨A1, c1, rfl, _, _, _⟩ := own_shape ho1
  have hv1 := Lib.hid ho1.view
  replace ho1 := Lib.hid ho1
  go_wp2_with fail
  refine (least_any _ _ [] (View.nil _ _) (by simp)).mono ?_; rintro e w2 ⟨rfl, hb2⟩
  have hv2 := Lib.hid (View.below hv1.out hb2)
  have hB2 := Lib.hid (below_then hb1 hb2)
  rw [e1]
  go_wp2_with fail
  refine (least_any _ _ _ hv2.out (by simp)).mono ?_; rintro e w3 ⟨rfl, hb3⟩
  have hv3 := Lib.hid (View.below hv2.out hb3)
  have hB3 := Lib.hid (below_then hB2.out hb3)
  rw [e2]
  go_wp2_with fail
  refine (find_any _ _ _ _ hv3.out (by simp)).mono ?_; rintro e w4 ⟨rfl, hb4⟩
  have hB4 := Lib.hid (below_then hB3.out hb4)
  rw [e3]
  go_wp2_with fail
  go_ret
  exact ⟨rfl, hB4.out⟩
end Go.Proofs.Ytbckobclicogiaa
