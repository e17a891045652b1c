/-
  posteref14.Settle, by its contract.
-/
import Derived.Test.YtegomkgfmaclkaaVg
import Derived.Test.YtegomkgfmaclkaaVe
set_option linter.unusedVariables false
set_option linter.unusedSimpArgs false
namespace Go.Proofs.Ytegomkgfmaclkaa
open Go.RowKit Go.Proofs.PosteOrd Go.Proofs.PosteMem

set_option maxHeartbeats 2000000 in
theorem onRow_any (w : World) (x : Ef) : Calls Try.prog 75 #[.agg x.cells.toArray] w fun e w' => e = .returned (.bool (onR x)) ∧ Below w.heap.size w w' := by
  obtain ⟨x0, x1, x2, x3, x4, x5, x6, ⟨x7, x8, x9, x10, x11, x12⟩⟩ := x
  have hb := (Below.refl w.heap.size w).alloc (Nat.le_refl _) (.cells #[.int .i64 x0, .string x1, .string x2, .string x3, .int .i64 x4, .int .i64 x5, .bool x6, .int .i64 x7, .int .i64 x8, .int .i64 x9, .bool x10, .string x11, .string x12] 50)
  unfold Ef.cells onR
  simp only
  replace hb := Lib.hid hb
  by_cases h2 : x0 = 2
  · subst h2
    go_enter Try.func75, Try.ntmps75
    go_wp2
    go_ret
    exact ⟨rfl, hb.out⟩
  · have h2' : (x0 == 2) = false := beq_eq_false_iff_ne.2 h2
    by_cases h3 : x0 = 3
    · subst h3
      go_enter Try.func75, Try.ntmps75
      go_wp2
      go_ret
      exact ⟨rfl, hb.out⟩
    · have h3' : (x0 == 3) = false := beq_eq_false_iff_ne.2 h3
      rw [decide_eq_false h2, decide_eq_false h3]
      go_enter Try.func75, Try.ntmps75
      go_wp2
      go_ret
      exact ⟨by simp [h2, h3], hb.out⟩
/-- What the reference's settling has at hand. -/
structure RS (w : World) (c0 c1 u : Value) (M : List Ef) (W : World) : Prop where
  x : Whole W w.heap.size 45 #[c0, c1]
  o : OEfs W (w.heap.size + 1) u M
  b : Below w.heap.size w W
theorem RS.below {w : World} {c0 c1 u : Value} {M : List Ef} {W W' : World} (h : RS w c0 c1 u M W) (k : Below W.heap.size W W') : RS w c0 c1 u M W' := ⟨h.x.below k, own_below h.o k, h.b.trans (k.mono h.b.size)⟩
theorem RS.upd {w : World} {c0 c1 u : Value} {M : List Ef} {W W' : World} {S : Nat → Prop} (h : RS w c0 c1 u M W) (k : Upd S W W') (hS : ∀ b, S b → w.heap.size < b ∧ u.ownBlock ≠ some b) : RS w c0 c1 u M W' := by
  refine ⟨h.x.upd k (fun e => ?_), own_upd h.o k (fun b hb e => (hS b e).2 hb), h.b.trans (k.below h.b.size (fun b e => ?_))⟩
  · have := (hS _ e).1; omega
  · have := (hS _ e).1; omega
theorem RS.app {w : World} {c0 c1 u u' : Value} {M : List Ef} {x : Ef} {W W' : World} (h : RS w c0 c1 u M W) (hown : W'.ownsRow (w.heap.size + 1) 50 13 u' (M.length + 1) (M.flatMap Ef.cells ++ x.cells)) (hg : W.grownBy W' u.ownBlock) : RS w c0 c1 u' (M ++ [x]) W' := by
  have hu := Upd.of_grown (S := fun b => u.ownBlock = some b) hg (fun _ h => h)
  refine ⟨h.x.upd hu (fun e => ?_), efs_snoc hown, h.b.trans (hu.below h.b.size (fun b e => ?_))⟩
  · have := (own_lt h.o e).1; omega
  · have := (own_lt h.o e).1; omega
theorem set13 {W : World} {g : Nat} {t : TypeId} {z0 z1 z2 z3 z4 z5 z6 z7 z8 z9 z10 z11 z12 : Value} (h : Whole W g t #[z0, z1, z2, z3, z4, z5, z6, z7, z8, z9, z10, z11, z12]) (a0 a1 a2 a3 a4 a5 a6 a7 a8 a9 a10 a11 a12 : Value) :
    Whole (((((((((((((W.setCell ⟨g, 0, none⟩ a0).setCell ⟨g, 1, none⟩ a1).setCell ⟨g, 2, none⟩ a2).setCell ⟨g, 3, none⟩ a3).setCell ⟨g, 4, none⟩ a4).setCell ⟨g, 5, none⟩ a5).setCell ⟨g, 6, none⟩ a6).setCell ⟨g, 7, none⟩ a7).setCell ⟨g, 8, none⟩ a8).setCell ⟨g, 9, none⟩ a9).setCell ⟨g, 10, none⟩ a10).setCell ⟨g, 11, none⟩ a11).setCell ⟨g, 12, none⟩ a12) g t #[a0, a1, a2, a3, a4, a5, a6, a7, a8, a9, a10, a11, a12] := by
  replace h := ((((((((((((h.set 0 a0).set 1 a1).set 2 a2).set 3 a3).set 4 a4).set 5 a5).set 6 a6).set 7 a7).set 8 a8).set 9 a9).set 10 a10).set 11 a11).set 12 a12
  simp only [List.setIfInBounds_toArray, List.set_cons_zero, List.set_cons_succ] at h
  exact h
theorem upd13 (W : World) (g : Nat) (a0 a1 a2 a3 a4 a5 a6 a7 a8 a9 a10 a11 a12 : Value) :
    Upd (fun b => b = g) W (((((((((((((W.setCell ⟨g, 0, none⟩ a0).setCell ⟨g, 1, none⟩ a1).setCell ⟨g, 2, none⟩ a2).setCell ⟨g, 3, none⟩ a3).setCell ⟨g, 4, none⟩ a4).setCell ⟨g, 5, none⟩ a5).setCell ⟨g, 6, none⟩ a6).setCell ⟨g, 7, none⟩ a7).setCell ⟨g, 8, none⟩ a8).setCell ⟨g, 9, none⟩ a9).setCell ⟨g, 10, none⟩ a10).setCell ⟨g, 11, none⟩ a11).setCell ⟨g, 12, none⟩ a12) :=
  ((((((((((((((Upd.refl (fun b => b = g) W).setCell (p := ⟨g, 0, none⟩) (.inr (show g = g from rfl)) a0).setCell (p := ⟨g, 1, none⟩) (.inr (show g = g from rfl)) a1).setCell (p := ⟨g, 2, none⟩) (.inr (show g = g from rfl)) a2).setCell (p := ⟨g, 3, none⟩) (.inr (show g = g from rfl)) a3).setCell (p := ⟨g, 4, none⟩) (.inr (show g = g from rfl)) a4).setCell (p := ⟨g, 5, none⟩) (.inr (show g = g from rfl)) a5).setCell (p := ⟨g, 6, none⟩) (.inr (show g = g from rfl)) a6).setCell (p := ⟨g, 7, none⟩) (.inr (show g = g from rfl)) a7).setCell (p := ⟨g, 8, none⟩) (.inr (show g = g from rfl)) a8).setCell (p := ⟨g, 9, none⟩) (.inr (show g = g from rfl)) a9).setCell (p := ⟨g, 10, none⟩) (.inr (show g = g from rfl)) a10).setCell (p := ⟨g, 11, none⟩) (.inr (show g = g from rfl)) a11).setCell (p := ⟨g, 12, none⟩) (.inr (show g = g from rfl)) a12)

set_option maxRecDepth 100000 in
set_option maxHeartbeats 8000000 in
theorem rsettle_any (w : World) (next : Int) (v : Value) (L : List Ob) (wv : Value) (E : List Ef) (hL : VObs w v L) (hE : VEfs w wv E) (hm : L.length ≤ 1000000) (hr : ∀ o ∈ L, o.rows.length ≤ 400000) (hn : E.length ≤ 100000) (hs : ∀ o ∈ L, Srt o.rows) (hoB : ∀ o ∈ L, RowsOk o.rows) (hz : ∀ e ∈ E, e.key.size ≤ 140737488351232) :
    Calls Try.prog 36 #[.agg #[.int .i64 next, v], wv] w fun e w' => ∃ v', e = .returned v' ∧ OEfs w' w.heap.size v' (settleTo L E E.length) ∧ Below w.heap.size w w' := by
  obtain ⟨i0, hi0, hz0, hz1, hz2⟩ := info_parts infoEf
  obtain ⟨A, cap, rfl, hc, _⟩ := hL.view.cells
  obtain ⟨A2, cap2, rfl, hc2, _⟩ := hE.cells
  have hb0 : Below w.heap.size w (w.alloc (.cells #[.int .i64 next, .slice A L.length cap] 45)) := (Below.refl _ _).alloc (Nat.le_refl _) _
  have hS0 : RS w (.int .i64 next) (.slice A L.length cap) (.slice none 0 0) (settleTo L E 0) (w.alloc (.cells #[.int .i64 next, .slice A L.length cap] 45)) := ⟨Whole.new w 45 #[.int .i64 next, .slice A L.length cap], World.ownsRow_nil _ _ _ _, hb0⟩
  replace hL := Lib.hid hL
  replace hE := Lib.hid hE
  replace hr := Lib.hid hr
  replace hs := Lib.hid hs
  replace hz := Lib.hid hz
  replace hoB := Lib.hid hoB
  replace hS0 := Lib.hid hS0
  clear hb0
  go_enter Try.func36, Try.ntmps36
  go_upto_region 3 with fail
  generalize w.alloc (.cells #[.int .i64 next, .slice A L.length cap] 45) = wA at *
  go_loopw [5, 6] (fun a i wr => ∃ (k : Nat), k ≤ E.length ∧ i = .int .i64 k ∧ RS w (.int .i64 next) (.slice A L.length cap) a (settleTo L E k) wr) (fun _ i _ => E.length - (intOf i).toNat)
  case atStart => exact ⟨0, by omega, rfl, hS0.out⟩
  case round =>
    clear hS0
    obtain ⟨k, hk, rfl, hS⟩ := hrel
    by_cases hlt : k < E.length
    · have q1 : (k : Int) < (E.length : Int) := by omega
      obtain ⟨b, off, cap', e, _, _, hblw, f⟩ := efs_at hE.out (by omega)
      injection e with e1 e2 e3
      subst e1 e3
      have hcb := fun {o : Nat} {v : Value} (h : w.cell? ⟨b, o, none⟩ = some v) => (hS.b.cell (p := ⟨b, o, none⟩) hblw).trans h
      obtain ⟨p0, p1, p2, p3, p4, p5, p6, p7, p8, p9, p10, p11, p12⟩ := f k hlt
      replace p0 := hcb p0; replace p1 := hcb p1; replace p2 := hcb p2; replace p3 := hcb p3; replace p4 := hcb p4; replace p5 := hcb p5; replace p6 := hcb p6; replace p7 := hcb p7; replace p8 := hcb p8; replace p9 := hcb p9; replace p10 := hcb p10; replace p11 := hcb p11; replace p12 := hcb p12
      have hbl : b < wr.heap.size := Nat.lt_of_lt_of_le hblw hS.b.size
      clear hcb
      replace f := Lib.hid f
      have z2 := hz.out E[k] (List.getElem_mem hlt)
      have hsu := settle_succ (L := L) hlt
      have hsl := settle_len (L := L) (E := E) hk
      have hlk := fun o' k' => last_take hlt o' k'
      generalize hxE : E[k] = x at *
      obtain ⟨x0, x1, x2, x3, x4, x5, x6, ⟨x7, x8, x9, x10, x11, x12⟩⟩ := x
      simp only at p0 p1 p2 p3 p4 p5 p6 p7 p8 p9 p10 p11 p12 z2
      have hal : Below wr.heap.size wr (wr.alloc (.cells #[.int .i64 x0, .string x1, .string x2, .string x3, .int .i64 x4, .int .i64 x5, .bool x6, .int .i64 x7, .int .i64 x8, .int .i64 x9, .bool x10, .string x11, .string x12] 50)) := (Below.refl _ _).alloc (Nat.le_refl _) _
      have hSx := hS.below hal
      have hX := Whole.new wr 50 #[.int .i64 x0, .string x1, .string x2, .string x3, .int .i64 x4, .int .i64 x5, .bool x6, .int .i64 x7, .int .i64 x8, .int .i64 x9, .bool x10, .string x11, .string x12]
      have huq : ∀ b, u5.ownBlock = some b → b < wr.heap.size := fun b hb => (own_lt hS.o hb).2
      have hpq : w.heap.size < wr.heap.size := hS.x.lt
      generalize settleTo L E k = M at *
      by_cases h4 : x0 = 4 ∨ x0 = 5
      · have hst : stepE L E k ⟨x0, x1, x2, x3, x4, x5, x6, ⟨x7, x8, x9, x10, x11, x12⟩⟩ = [⟨x0, x1, x2, x3, x4, x5, x6, ⟨x7, x8, x9, x10, x11, x12⟩⟩] := by unfold stepE; rw [if_pos h4]
        rw [hst] at hsu
        clear hlk hst hal
        replace hsu := Lib.hid hsu
        rcases h4 with rfl | rfl
        · go_upto_region 7 with fail
          have hal6 : Below (wr.alloc (.cells #[.int .i64 4, .string x1, .string x2, .string x3, .int .i64 x4, .int .i64 x5, .bool x6, .int .i64 x7, .int .i64 x8, .int .i64 x9, .bool x10, .string x11, .string x12] 50)).heap.size (wr.alloc (.cells #[.int .i64 4, .string x1, .string x2, .string x3, .int .i64 x4, .int .i64 x5, .bool x6, .int .i64 x7, .int .i64 x8, .int .i64 x9, .bool x10, .string x11, .string x12] 50)) ((wr.alloc (.cells #[.int .i64 4, .string x1, .string x2, .string x3, .int .i64 x4, .int .i64 x5, .bool x6, .int .i64 x7, .int .i64 x8, .int .i64 x9, .bool x10, .string x11, .string x12] 50)).alloc (.cells #[.int .i64 4, .string x1, .string x2, .string x3, .int .i64 x4, .int .i64 x5, .bool x6, .int .i64 x7, .int .i64 x8, .int .i64 x9, .bool x10, .string x11, .string x12] 50)) := (Below.refl _ _).alloc (Nat.le_refl _) _
          have hS6 := Lib.hid (hSx.below hal6)
          have hX6 := Lib.hid (hX.below hal6)
          have hsz6 : w.heap.size + 1 ≤ ((wr.alloc (.cells #[.int .i64 4, .string x1, .string x2, .string x3, .int .i64 x4, .int .i64 x5, .bool x6, .int .i64 x7, .int .i64 x8, .int .i64 x9, .bool x10, .string x11, .string x12] 50)).alloc (.cells #[.int .i64 4, .string x1, .string x2, .string x3, .int .i64 x4, .int .i64 x5, .bool x6, .int .i64 x7, .int .i64 x8, .int .i64 x9, .bool x10, .string x11, .string x12] 50)).heap.size := by simp; omega
          have hvx := Lib.hid (View.boxAt (sz := 13) (wr.alloc (.cells #[.int .i64 4, .string x1, .string x2, .string x3, .int .i64 x4, .int .i64 x5, .bool x6, .int .i64 x7, .int .i64 x8, .int .i64 x9, .bool x10, .string x11, .string x12] 50)) (Ef.cells ⟨4, x1, x2, x3, x4, x5, x6, ⟨x7, x8, x9, x10, x11, x12⟩⟩) 50 (wr.heap.size + 1) rfl (by simp))
          have hob6 : ((wr.alloc (.cells #[.int .i64 4, .string x1, .string x2, .string x3, .int .i64 x4, .int .i64 x5, .bool x6, .int .i64 x7, .int .i64 x8, .int .i64 x9, .bool x10, .string x11, .string x12] 50)).alloc (.cells #[.int .i64 4, .string x1, .string x2, .string x3, .int .i64 x4, .int .i64 x5, .bool x6, .int .i64 x7, .int .i64 x8, .int .i64 x9, .bool x10, .string x11, .string x12] 50)).ownsRow (w.heap.size + 1) 50 13 u5 M.length (M.flatMap Ef.cells) := hS6.out.o
          replace hob6 := Lib.hid hob6
          replace huq := Lib.hid huq
          replace hS := Lib.hid hS
          clear hal6 hSx hX
          go_upto_region 8 with (at_builtin; refine wpList_append_view _ rfl (.tmp 31) (.tmp 33) _ rfl (w.heap.size + 1) 50 i0 zEf 13 144 Try.underlying46 hi0 hz0 hz1 hz2 rfl (by decide) _ M.length _ rfl hob6.out _ 1 (Ef.cells ⟨4, x1, x2, x3, x4, x5, x6, ⟨x7, x8, x9, x10, x11, x12⟩⟩) rfl hvx.out (Ef.one1 _) (by omega) (by simp only [maxLen]; omega) hsz6 ?_; intro v3 w3 hown hg hat)
          have hS7 := hS6.out.app hown hg
          have hX7 := hX6.out.grown hg (fun e => by have := huq.out _ e; omega)
          have c0 := hX7.cell 0
          have c1 := hX7.cell 1
          have c2 := hX7.cell 2
          have c3 := hX7.cell 3
          have c4 := hX7.cell 4
          have c5 := hX7.cell 5
          have c6 := hX7.cell 6
          have c7 := hX7.cell 7
          have c8 := hX7.cell 8
          have c9 := hX7.cell 9
          have c10 := hX7.cell 10
          have c11 := hX7.cell 11
          have c12 := hX7.cell 12
          have hl7 := hX7.lt
          have kO := Lib.hid (onRow_any w3 ⟨4, x1, x2, x3, x4, x5, x6, ⟨x7, x8, x9, x10, x11, x12⟩⟩)
          replace hS7 := Lib.hid hS7
          clear hown hg hat hX7 hS6 hX6 hvx hob6
          go_wp2_with (go_at_call 75; refine kO.out.mono ?_; rintro e w4 ⟨rfl, hb4⟩; rw [show onR ⟨4, x1, x2, x3, x4, x5, x6, ⟨x7, x8, x9, x10, x11, x12⟩⟩ = false from rfl])
          go_roundw
          case rel => exact ⟨k + 1, by omega, by go_num, by rw [hsu.out]; exact hS7.out.below hb4⟩
          case measure => simp [intOf]; omega
        · go_upto_region 7 with fail
          have hal6 : Below (wr.alloc (.cells #[.int .i64 5, .string x1, .string x2, .string x3, .int .i64 x4, .int .i64 x5, .bool x6, .int .i64 x7, .int .i64 x8, .int .i64 x9, .bool x10, .string x11, .string x12] 50)).heap.size (wr.alloc (.cells #[.int .i64 5, .string x1, .string x2, .string x3, .int .i64 x4, .int .i64 x5, .bool x6, .int .i64 x7, .int .i64 x8, .int .i64 x9, .bool x10, .string x11, .string x12] 50)) ((wr.alloc (.cells #[.int .i64 5, .string x1, .string x2, .string x3, .int .i64 x4, .int .i64 x5, .bool x6, .int .i64 x7, .int .i64 x8, .int .i64 x9, .bool x10, .string x11, .string x12] 50)).alloc (.cells #[.int .i64 5, .string x1, .string x2, .string x3, .int .i64 x4, .int .i64 x5, .bool x6, .int .i64 x7, .int .i64 x8, .int .i64 x9, .bool x10, .string x11, .string x12] 50)) := (Below.refl _ _).alloc (Nat.le_refl _) _
          have hS6 := Lib.hid (hSx.below hal6)
          have hX6 := Lib.hid (hX.below hal6)
          have hsz6 : w.heap.size + 1 ≤ ((wr.alloc (.cells #[.int .i64 5, .string x1, .string x2, .string x3, .int .i64 x4, .int .i64 x5, .bool x6, .int .i64 x7, .int .i64 x8, .int .i64 x9, .bool x10, .string x11, .string x12] 50)).alloc (.cells #[.int .i64 5, .string x1, .string x2, .string x3, .int .i64 x4, .int .i64 x5, .bool x6, .int .i64 x7, .int .i64 x8, .int .i64 x9, .bool x10, .string x11, .string x12] 50)).heap.size := by simp; omega
          have hvx := Lib.hid (View.boxAt (sz := 13) (wr.alloc (.cells #[.int .i64 5, .string x1, .string x2, .string x3, .int .i64 x4, .int .i64 x5, .bool x6, .int .i64 x7, .int .i64 x8, .int .i64 x9, .bool x10, .string x11, .string x12] 50)) (Ef.cells ⟨5, x1, x2, x3, x4, x5, x6, ⟨x7, x8, x9, x10, x11, x12⟩⟩) 50 (wr.heap.size + 1) rfl (by simp))
          have hob6 : ((wr.alloc (.cells #[.int .i64 5, .string x1, .string x2, .string x3, .int .i64 x4, .int .i64 x5, .bool x6, .int .i64 x7, .int .i64 x8, .int .i64 x9, .bool x10, .string x11, .string x12] 50)).alloc (.cells #[.int .i64 5, .string x1, .string x2, .string x3, .int .i64 x4, .int .i64 x5, .bool x6, .int .i64 x7, .int .i64 x8, .int .i64 x9, .bool x10, .string x11, .string x12] 50)).ownsRow (w.heap.size + 1) 50 13 u5 M.length (M.flatMap Ef.cells) := hS6.out.o
          replace hob6 := Lib.hid hob6
          replace huq := Lib.hid huq
          replace hS := Lib.hid hS
          clear hal6 hSx hX
          go_upto_region 8 with (at_builtin; refine wpList_append_view _ rfl (.tmp 31) (.tmp 33) _ rfl (w.heap.size + 1) 50 i0 zEf 13 144 Try.underlying46 hi0 hz0 hz1 hz2 rfl (by decide) _ M.length _ rfl hob6.out _ 1 (Ef.cells ⟨5, x1, x2, x3, x4, x5, x6, ⟨x7, x8, x9, x10, x11, x12⟩⟩) rfl hvx.out (Ef.one1 _) (by omega) (by simp only [maxLen]; omega) hsz6 ?_; intro v3 w3 hown hg hat)
          have hS7 := hS6.out.app hown hg
          have hX7 := hX6.out.grown hg (fun e => by have := huq.out _ e; omega)
          have c0 := hX7.cell 0
          have c1 := hX7.cell 1
          have c2 := hX7.cell 2
          have c3 := hX7.cell 3
          have c4 := hX7.cell 4
          have c5 := hX7.cell 5
          have c6 := hX7.cell 6
          have c7 := hX7.cell 7
          have c8 := hX7.cell 8
          have c9 := hX7.cell 9
          have c10 := hX7.cell 10
          have c11 := hX7.cell 11
          have c12 := hX7.cell 12
          have hl7 := hX7.lt
          have kO := Lib.hid (onRow_any w3 ⟨5, x1, x2, x3, x4, x5, x6, ⟨x7, x8, x9, x10, x11, x12⟩⟩)
          replace hS7 := Lib.hid hS7
          clear hown hg hat hX7 hS6 hX6 hvx hob6
          go_wp2_with (go_at_call 75; refine kO.out.mono ?_; rintro e w4 ⟨rfl, hb4⟩; rw [show onR ⟨5, x1, x2, x3, x4, x5, x6, ⟨x7, x8, x9, x10, x11, x12⟩⟩ = false from rfl])
          go_roundw
          case rel => exact ⟨k + 1, by omega, by go_num, by rw [hsu.out]; exact hS7.out.below hb4⟩
          case measure => simp [intOf]; omega
      · have h4' : (x0 == 4) = false := beq_eq_false_iff_ne.2 (fun e => h4 (.inl e))
        have h5' : (x0 == 5) = false := beq_eq_false_iff_ne.2 (fun e => h4 (.inr e))
        cases hon : onR ⟨x0, x1, x2, x3, x4, x5, x6, ⟨x7, x8, x9, x10, x11, x12⟩⟩ with
        | false =>
          have hst : stepE L E k ⟨x0, x1, x2, x3, x4, x5, x6, ⟨x7, x8, x9, x10, x11, x12⟩⟩ = [] := by unfold stepE; rw [if_neg h4, if_neg (by rw [hon]; decide)]
          rw [hst, List.append_nil] at hsu
          have kO := onRow_any (wr.alloc (.cells #[.int .i64 x0, .string x1, .string x2, .string x3, .int .i64 x4, .int .i64 x5, .bool x6, .int .i64 x7, .int .i64 x8, .int .i64 x9, .bool x10, .string x11, .string x12] 50)) ⟨x0, x1, x2, x3, x4, x5, x6, ⟨x7, x8, x9, x10, x11, x12⟩⟩
          rw [hon] at kO
          replace kO := Lib.hid kO
          replace hsu := Lib.hid hsu
          replace hSx := Lib.hid hSx
          replace hS := Lib.hid hS
          clear hlk hst hal hon hX huq
          go_wp2_with (go_at_call 75; refine kO.out.mono ?_; rintro e w4 ⟨rfl, hb4⟩)
          go_roundw
          case rel => exact ⟨k + 1, by omega, by go_num, by rw [hsu.out]; exact hSx.out.below hb4⟩
          case measure => simp [intOf]; omega
        | true =>
          have hat : at_ x1 x2 ⟨x0, x1, x2, x3, x4, x5, x6, ⟨x7, x8, x9, x10, x11, x12⟩⟩ = true := by unfold at_; simp [hon]
          have hl0 : lastOf (E.take (k + 1)) x1 x2 = some ⟨x0, x1, x2, x3, x4, x5, x6, ⟨x7, x8, x9, x10, x11, x12⟩⟩ := by rw [hlk x1 x2, if_pos hat]
          have hst : stepE L E k ⟨x0, x1, x2, x3, x4, x5, x6, ⟨x7, x8, x9, x10, x11, x12⟩⟩ = if met (E.take k) x1 x2 = true then [] else ((lastOf E x1 x2).map (keepE L)).getD [] := by
            unfold stepE
            rw [if_neg h4, if_pos hon]
          rw [hst] at hsu
          have kO := onRow_any (wr.alloc (.cells #[.int .i64 x0, .string x1, .string x2, .string x3, .int .i64 x4, .int .i64 x5, .bool x6, .int .i64 x7, .int .i64 x8, .int .i64 x9, .bool x10, .string x11, .string x12] 50)) ⟨x0, x1, x2, x3, x4, x5, x6, ⟨x7, x8, x9, x10, x11, x12⟩⟩
          rw [hon] at kO
          replace kO := Lib.hid kO
          replace hsu := Lib.hid hsu
          replace hSx := Lib.hid hSx
          replace hX := Lib.hid hX
          replace huq := Lib.hid huq
          replace hl0 := Lib.hid hl0
          replace hon := Lib.hid hon
          replace hxE := Lib.hid hxE
          replace hS := Lib.hid hS
          clear hlk hst hal hat
          go_upto_region 11 with (go_at_call 75; refine kO.out.mono ?_; rintro e w4 ⟨rfl, hb4⟩)
          have hS4 := Lib.hid (hSx.out.below hb4)
          have hX4 := Lib.hid (hX.out.below hb4)
          clear hS hSx hX kO hb4 hbl p0 p1 p2 p3 p4 p5 p6 p7 p8 p9 p10 p11 p12
          generalize wr.heap.size = q at *
          go_loopw [8, 9] (fun fv j W => ∃ (m : Nat) (fb : Bool), m ≤ k ∧ j = .int .i64 m ∧ fv = .bool fb ∧ fb = !met (E.take m) x1 x2 ∧ RS w (.int .i64 next) (.slice A L.length cap) u5 M W ∧ Whole W q 50 #[.int .i64 x0, .string x1, .string x2, .string x3, .int .i64 x4, .int .i64 x5, .bool x6, .int .i64 x7, .int .i64 x8, .int .i64 x9, .bool x10, .string x11, .string x12]) (fun _ j _ => k - (intOf j).toNat)
          case atStart => exact ⟨0, true, by omega, rfl, rfl, rfl, hS4.out, hX4.out⟩
          case round =>
            clear hS4 hX4
            obtain ⟨m, fb, hmk, rfl, rfl, hfb, hS, hX⟩ := hrel
            by_cases hlt2 : m < k
            · have q3 : (m : Int) < (k : Int) := by omega
              have hml : m < E.length := by omega
              have q4 : (m : Int) < (E.length : Int) := by omega
              obtain ⟨p0, p1, p2, p3, p4, p5, p6, p7, p8, p9, p10, p11, p12⟩ := f.out m hml
              have hcb := fun {o : Nat} {v : Value} (h : w.cell? ⟨b, o, none⟩ = some v) => (hS.b.cell (p := ⟨b, o, none⟩) hblw).trans h
              replace p0 := hcb p0; replace p1 := hcb p1; replace p2 := hcb p2; replace p3 := hcb p3; replace p4 := hcb p4; replace p5 := hcb p5; replace p6 := hcb p6; replace p7 := hcb p7; replace p8 := hcb p8; replace p9 := hcb p9; replace p10 := hcb p10; replace p11 := hcb p11; replace p12 := hcb p12
              have hbl : b < wr.heap.size := Nat.lt_of_lt_of_le hblw hS.b.size
              clear hcb
              have hql := hX.lt
              have s1 := hX.cell 1
              have s2 := hX.cell 2
              have hmt := met_take hml x1 x2
              generalize E[m] = y at *
              obtain ⟨y0, y1, y2, y3, y4, y5, y6, ⟨y7, y8, y9, y10, y11, y12⟩⟩ := y
              simp only at p0 p1 p2 p3 p4 p5 p6 p7 p8 p9 p10 p11 p12
              have kO := onRow_any wr.drew ⟨y0, y1, y2, y3, y4, y5, y6, ⟨y7, y8, y9, y10, y11, y12⟩⟩
              replace hS := Lib.hid (hS.below (Below.drew (Below.refl wr.heap.size wr)))
              replace hX := Lib.hid hX.drew
              cases fb with
              | false =>
                have hnew : false = !met (E.take (m + 1)) x1 x2 := by
                  rw [hmt]
                  have : met (E.take m) x1 x2 = true := by simpa using hfb.symm
                  rw [this]; rfl
                replace hnew := Lib.hid hnew
                clear hfb hmt kO
                go_upto_region 13 with fail
                refine tl_begin (fun (w' : World) => (w'.cell? ⟨b, off + m * 13, none⟩ = some (.int .i64 y0) ∧ w'.cell? ⟨b, off + m * 13 + 1, none⟩ = some (.string y1) ∧ w'.cell? ⟨b, off + m * 13 + 2, none⟩ = some (.string y2) ∧ w'.cell? ⟨b, off + m * 13 + 3, none⟩ = some (.string y3) ∧ w'.cell? ⟨b, off + m * 13 + 4, none⟩ = some (.int .i64 y4) ∧ w'.cell? ⟨b, off + m * 13 + 5, none⟩ = some (.int .i64 y5) ∧ w'.cell? ⟨b, off + m * 13 + 6, none⟩ = some (.bool y6) ∧ w'.cell? ⟨b, off + m * 13 + 7, none⟩ = some (.int .i64 y7) ∧ w'.cell? ⟨b, off + m * 13 + 8, none⟩ = some (.int .i64 y8) ∧ w'.cell? ⟨b, off + m * 13 + 9, none⟩ = some (.int .i64 y9) ∧ w'.cell? ⟨b, off + m * 13 + 10, none⟩ = some (.bool y10) ∧ w'.cell? ⟨b, off + m * 13 + 11, none⟩ = some (.string y11) ∧ w'.cell? ⟨b, off + m * 13 + 12, none⟩ = some (.string y12)) ∧ w'.cell? ⟨q, 1, none⟩ = some (.string x1) ∧ w'.cell? ⟨q, 2, none⟩ = some (.string x2)) [] (by kernel_rfl) (⟨⟨p0, p1, p2, p3, p4, p5, p6, p7, p8, p9, p10, p11, p12⟩, s1, s2⟩) (fun hHeld => ?_)
                refine tl_p (i := 0) (v := ?_) rfl (by rfl) (by kernel_rfl) (by kernel_rfl) (by kernel_rfl) (fun _ _ _ h => h) (by rfl) hHeld ?_ ?_
                rotate_left
                · intro w
                  go_simp
                  try (with_reducible rfl)
                try simp only [Act.put, List.setIfInBounds_toArray, List.set_cons_zero, List.set_cons_succ]
                refine tl_p (i := 1) (v := ?_) rfl (by rfl) (by kernel_rfl) (by kernel_rfl) (by kernel_rfl) (fun _ _ _ h => h) (by rfl) hHeld ?_ ?_
                rotate_left
                · intro w
                  go_simp
                  try (with_reducible rfl)
                try simp only [Act.put, List.setIfInBounds_toArray, List.set_cons_zero, List.set_cons_succ]
                refine tl_u (i := 2) rfl (by rfl) (by kernel_rfl) (by kernel_rfl) (by kernel_rfl) (fun _ _ _ h => h) (by rfl) hHeld ?_
                try simp only [Act.put, List.setIfInBounds_toArray, List.set_cons_zero, List.set_cons_succ]
                refine tl_u (i := 3) rfl (by rfl) (by kernel_rfl) (by kernel_rfl) (by kernel_rfl) (fun _ _ _ h => h) (by rfl) hHeld ?_
                try simp only [Act.put, List.setIfInBounds_toArray, List.set_cons_zero, List.set_cons_succ]
                refine tl_u (i := 4) rfl (by rfl) (by kernel_rfl) (by kernel_rfl) (by kernel_rfl) (fun _ _ _ h => h) (by rfl) hHeld ?_
                try simp only [Act.put, List.setIfInBounds_toArray, List.set_cons_zero, List.set_cons_succ]
                refine tl_u (i := 5) rfl (by rfl) (by kernel_rfl) (by kernel_rfl) (by kernel_rfl) (fun _ _ _ h => h) (by rfl) hHeld ?_
                try simp only [Act.put, List.setIfInBounds_toArray, List.set_cons_zero, List.set_cons_succ]
                refine tl_u (i := 6) rfl (by rfl) (by kernel_rfl) (by kernel_rfl) (by kernel_rfl) (fun _ _ _ h => h) (by rfl) hHeld ?_
                try simp only [Act.put, List.setIfInBounds_toArray, List.set_cons_zero, List.set_cons_succ]
                refine tl_u (i := 7) rfl (by rfl) (by kernel_rfl) (by kernel_rfl) (by kernel_rfl) (fun _ _ _ h => h) (by rfl) hHeld ?_
                try simp only [Act.put, List.setIfInBounds_toArray, List.set_cons_zero, List.set_cons_succ]
                refine tl_u (i := 8) rfl (by rfl) (by kernel_rfl) (by kernel_rfl) (by kernel_rfl) (fun _ _ _ h => h) (by rfl) hHeld ?_
                try simp only [Act.put, List.setIfInBounds_toArray, List.set_cons_zero, List.set_cons_succ]
                refine tl_u (i := 9) rfl (by rfl) (by kernel_rfl) (by kernel_rfl) (by kernel_rfl) (fun _ _ _ h => h) (by rfl) hHeld ?_
                try simp only [Act.put, List.setIfInBounds_toArray, List.set_cons_zero, List.set_cons_succ]
                refine tl_u (i := 10) rfl (by rfl) (by kernel_rfl) (by kernel_rfl) (by kernel_rfl) (fun _ _ _ h => h) (by rfl) hHeld ?_
                try simp only [Act.put, List.setIfInBounds_toArray, List.set_cons_zero, List.set_cons_succ]
                refine tl_u (i := 11) rfl (by rfl) (by kernel_rfl) (by kernel_rfl) (by kernel_rfl) (fun _ _ _ h => h) (by rfl) hHeld ?_
                try simp only [Act.put, List.setIfInBounds_toArray, List.set_cons_zero, List.set_cons_succ]
                refine tl_u (i := 12) rfl (by rfl) (by kernel_rfl) (by kernel_rfl) (by kernel_rfl) (fun _ _ _ h => h) (by rfl) hHeld ?_
                try simp only [Act.put, List.setIfInBounds_toArray, List.set_cons_zero, List.set_cons_succ]
                refine tl_u (i := 13) rfl (by rfl) (by kernel_rfl) (by kernel_rfl) (by kernel_rfl) (fun _ _ _ h => h) (by rfl) hHeld ?_
                try simp only [Act.put, List.setIfInBounds_toArray, List.set_cons_zero, List.set_cons_succ]
                refine tl_u (i := 14) rfl (by rfl) (by kernel_rfl) (by kernel_rfl) (by kernel_rfl) (fun _ _ _ h => h) (by rfl) hHeld ?_
                try simp only [Act.put, List.setIfInBounds_toArray, List.set_cons_zero, List.set_cons_succ]
                refine tl_u (i := 15) rfl (by rfl) (by kernel_rfl) (by kernel_rfl) (by kernel_rfl) (fun _ _ _ h => h) (by rfl) hHeld ?_
                try simp only [Act.put, List.setIfInBounds_toArray, List.set_cons_zero, List.set_cons_succ]
                refine tl_u (i := 16) rfl (by rfl) (by kernel_rfl) (by kernel_rfl) (by kernel_rfl) (fun _ _ _ h => h) (by rfl) hHeld ?_
                try simp only [Act.put, List.setIfInBounds_toArray, List.set_cons_zero, List.set_cons_succ]
                refine tl_u (i := 17) rfl (by rfl) (by kernel_rfl) (by kernel_rfl) (by kernel_rfl) (fun _ _ _ h => h) (by rfl) hHeld ?_
                try simp only [Act.put, List.setIfInBounds_toArray, List.set_cons_zero, List.set_cons_succ]
                refine tl_u (i := 18) rfl (by rfl) (by kernel_rfl) (by kernel_rfl) (by kernel_rfl) (fun _ _ _ h => h) (by rfl) hHeld ?_
                try simp only [Act.put, List.setIfInBounds_toArray, List.set_cons_zero, List.set_cons_succ]
                refine tl_u (i := 19) rfl (by rfl) (by kernel_rfl) (by kernel_rfl) (by kernel_rfl) (fun _ _ _ h => h) (by rfl) hHeld ?_
                try simp only [Act.put, List.setIfInBounds_toArray, List.set_cons_zero, List.set_cons_succ]
                refine tl_u (i := 20) rfl (by rfl) (by kernel_rfl) (by kernel_rfl) (by kernel_rfl) (fun _ _ _ h => h) (by rfl) hHeld ?_
                try simp only [Act.put, List.setIfInBounds_toArray, List.set_cons_zero, List.set_cons_succ]
                refine tl_u (i := 21) rfl (by rfl) (by kernel_rfl) (by kernel_rfl) (by kernel_rfl) (fun _ _ _ h => h) (by rfl) hHeld ?_
                try simp only [Act.put, List.setIfInBounds_toArray, List.set_cons_zero, List.set_cons_succ]
                refine tl_u (i := 22) rfl (by rfl) (by kernel_rfl) (by kernel_rfl) (by kernel_rfl) (fun _ _ _ h => h) (by rfl) hHeld ?_
                try simp only [Act.put, List.setIfInBounds_toArray, List.set_cons_zero, List.set_cons_succ]
                refine tl_u (i := 23) rfl (by rfl) (by kernel_rfl) (by kernel_rfl) (by kernel_rfl) (fun _ _ _ h => h) (by rfl) hHeld ?_
                try simp only [Act.put, List.setIfInBounds_toArray, List.set_cons_zero, List.set_cons_succ]
                refine tl_u (i := 24) rfl (by rfl) (by kernel_rfl) (by kernel_rfl) (by kernel_rfl) (fun _ _ _ h => h) (by rfl) hHeld ?_
                try simp only [Act.put, List.setIfInBounds_toArray, List.set_cons_zero, List.set_cons_succ]
                refine tl_u (i := 25) rfl (by rfl) (by kernel_rfl) (by kernel_rfl) (by kernel_rfl) (fun _ _ _ h => h) (by rfl) hHeld ?_
                try simp only [Act.put, List.setIfInBounds_toArray, List.set_cons_zero, List.set_cons_succ]
                refine tl_u (i := 26) rfl (by rfl) (by kernel_rfl) (by kernel_rfl) (by kernel_rfl) (fun _ _ _ h => h) (by rfl) hHeld ?_
                try simp only [Act.put, List.setIfInBounds_toArray, List.set_cons_zero, List.set_cons_succ]
                refine tl_u (i := 27) rfl (by rfl) (by kernel_rfl) (by kernel_rfl) (by kernel_rfl) (fun _ _ _ h => h) (by rfl) hHeld ?_
                try simp only [Act.put, List.setIfInBounds_toArray, List.set_cons_zero, List.set_cons_succ]
                refine tl_p (i := 28) (v := ?_) rfl (by rfl) (by kernel_rfl) (by kernel_rfl) (by kernel_rfl) (fun _ _ _ h => h) (by rfl) hHeld ?_ ?_
                rotate_left
                · intro w
                  go_simp
                  try (with_reducible rfl)
                try simp only [Act.put, List.setIfInBounds_toArray, List.set_cons_zero, List.set_cons_succ]
                refine tl_p (i := 29) (v := ?_) rfl (by rfl) (by kernel_rfl) (by kernel_rfl) (by kernel_rfl) (fun _ _ _ h => h) (by rfl) hHeld ?_ ?_
                rotate_left
                · intro w
                  go_simp
                  try (with_reducible rfl)
                try simp only [Act.put, List.setIfInBounds_toArray, List.set_cons_zero, List.set_cons_succ]
                refine till_done (by kernel_rfl) ?_ _
                clear hHeld
                go_wp2_with fail
                go_roundw
                case rel => exact ⟨m + 1, false, by omega, by go_num, rfl, hnew.out, hS.out, hX.out⟩
                case measure => simp [intOf]; omega
              | true =>
                have hme : met (E.take m) x1 x2 = false := by simpa using hfb.symm
                rw [hme, Bool.false_or] at hmt
                clear hme
                cases hoy : onR ⟨y0, y1, y2, y3, y4, y5, y6, ⟨y7, y8, y9, y10, y11, y12⟩⟩ with
                | false =>
                  have hnew : true = !met (E.take (m + 1)) x1 x2 := by rw [hmt]; unfold at_; rw [hoy]; rfl
                  rw [hoy] at kO
                  replace kO := Lib.hid kO
                  replace hnew := Lib.hid hnew
                  clear hfb hmt hoy
                  go_upto_region 13 with fail
                  refine tl_begin (fun (w' : World) => (w'.cell? ⟨b, off + m * 13, none⟩ = some (.int .i64 y0) ∧ w'.cell? ⟨b, off + m * 13 + 1, none⟩ = some (.string y1) ∧ w'.cell? ⟨b, off + m * 13 + 2, none⟩ = some (.string y2) ∧ w'.cell? ⟨b, off + m * 13 + 3, none⟩ = some (.string y3) ∧ w'.cell? ⟨b, off + m * 13 + 4, none⟩ = some (.int .i64 y4) ∧ w'.cell? ⟨b, off + m * 13 + 5, none⟩ = some (.int .i64 y5) ∧ w'.cell? ⟨b, off + m * 13 + 6, none⟩ = some (.bool y6) ∧ w'.cell? ⟨b, off + m * 13 + 7, none⟩ = some (.int .i64 y7) ∧ w'.cell? ⟨b, off + m * 13 + 8, none⟩ = some (.int .i64 y8) ∧ w'.cell? ⟨b, off + m * 13 + 9, none⟩ = some (.int .i64 y9) ∧ w'.cell? ⟨b, off + m * 13 + 10, none⟩ = some (.bool y10) ∧ w'.cell? ⟨b, off + m * 13 + 11, none⟩ = some (.string y11) ∧ w'.cell? ⟨b, off + m * 13 + 12, none⟩ = some (.string y12)) ∧ w'.cell? ⟨q, 1, none⟩ = some (.string x1) ∧ w'.cell? ⟨q, 2, none⟩ = some (.string x2)) [] (by kernel_rfl) (⟨⟨p0, p1, p2, p3, p4, p5, p6, p7, p8, p9, p10, p11, p12⟩, s1, s2⟩) (fun hHeld => ?_)
                  refine tl_p (i := 0) (v := ?_) rfl (by rfl) (by kernel_rfl) (by kernel_rfl) (by kernel_rfl) (fun _ _ _ h => h) (by rfl) hHeld ?_ ?_
                  rotate_left
                  · intro w
                    go_simp
                    try (with_reducible rfl)
                  try simp only [Act.put, List.setIfInBounds_toArray, List.set_cons_zero, List.set_cons_succ]
                  refine tl_p (i := 1) (v := ?_) rfl (by rfl) (by kernel_rfl) (by kernel_rfl) (by kernel_rfl) (fun _ _ _ h => h) (by rfl) hHeld ?_ ?_
                  rotate_left
                  · intro w
                    go_simp
                    try (with_reducible rfl)
                  try simp only [Act.put, List.setIfInBounds_toArray, List.set_cons_zero, List.set_cons_succ]
                  refine tl_p (i := 2) (v := ?_) rfl (by rfl) (by kernel_rfl) (by kernel_rfl) (by kernel_rfl) (fun _ _ _ h => h) (by rfl) hHeld ?_ ?_
                  rotate_left
                  · intro w
                    go_simp
                    try (with_reducible rfl)
                  try simp only [Act.put, List.setIfInBounds_toArray, List.set_cons_zero, List.set_cons_succ]
                  refine tl_p (i := 3) (v := ?_) rfl (by rfl) (by kernel_rfl) (by kernel_rfl) (by kernel_rfl) (fun _ _ _ h => h) (by rfl) hHeld ?_ ?_
                  rotate_left
                  · intro w
                    go_simp
                    try (with_reducible rfl)
                  try simp only [Act.put, List.setIfInBounds_toArray, List.set_cons_zero, List.set_cons_succ]
                  refine tl_p (i := 4) (v := ?_) rfl (by rfl) (by kernel_rfl) (by kernel_rfl) (by kernel_rfl) (fun _ _ _ h => h) (by rfl) hHeld ?_ ?_
                  rotate_left
                  · intro w
                    go_simp
                    try (with_reducible rfl)
                  try simp only [Act.put, List.setIfInBounds_toArray, List.set_cons_zero, List.set_cons_succ]
                  refine tl_w (i := 5) (v := ?_) rfl (by rfl) (by kernel_rfl) (by kernel_rfl) (by kernel_rfl) (by kernel_rfl) (by kernel_rfl) (fun _ _ _ h => h) (by rfl) hHeld ?_ ?_
                  rotate_left
                  · intro w hSw
                    try dsimp only at hSw
                    go_simp
                    try (with_reducible rfl)
                  try simp only [Act.put, List.setIfInBounds_toArray, List.set_cons_zero, List.set_cons_succ]
                  refine tl_do (i := 6) rfl (by kernel_rfl) (by rfl) (fun K hK => ?_)
                  go_simp
                  go_at_call 75
                  refine kO.out.mono ?_; rintro e w4 ⟨rfl, hb4⟩
                  have hc := fun {o : Nat} {v : Value} (h : wr.drew.cell? ⟨b, o, none⟩ = some v) => (hb4.cell (p := ⟨b, o, none⟩) hbl).trans h
                  have hq4 := fun {o : Nat} {v : Value} (h : wr.drew.cell? ⟨q, o, none⟩ = some v) => (hb4.cell (p := ⟨q, o, none⟩) hql).trans h
                  have hcN := And.intro (And.intro (hc p0) (And.intro (hc p1) (And.intro (hc p2) (And.intro (hc p3) (And.intro (hc p4) (And.intro (hc p5) (And.intro (hc p6) (And.intro (hc p7) (And.intro (hc p8) (And.intro (hc p9) (And.intro (hc p10) (And.intro (hc p11) (hc p12))))))))))))) (And.intro (hq4 s1) (hq4 s2))
                  clear hc hq4
                  have hS4 := Lib.hid (hS.out.below hb4)
                  have hX4 := Lib.hid (hX.out.below hb4)
                  clear hb4
                  try go_wp2_with fail
                  refine hK.out _ _ (hcN) (fun hHeld1 => ?_)
                  clear hK K hHeld
                  have hHeld := hHeld1
                  clear hHeld1
                  try simp only [Act.put, List.setIfInBounds_toArray, List.set_cons_zero, List.set_cons_succ]
                  refine tl_p (i := 7) (v := ?_) rfl (by rfl) (by kernel_rfl) (by kernel_rfl) (by kernel_rfl) (fun _ _ _ h => h) (by rfl) hHeld ?_ ?_
                  rotate_left
                  · intro w
                    go_simp
                    try (with_reducible rfl)
                  try simp only [Act.put, List.setIfInBounds_toArray, List.set_cons_zero, List.set_cons_succ]
                  refine tl_u (i := 8) rfl (by rfl) (by kernel_rfl) (by kernel_rfl) (by kernel_rfl) (fun _ _ _ h => h) (by rfl) hHeld ?_
                  try simp only [Act.put, List.setIfInBounds_toArray, List.set_cons_zero, List.set_cons_succ]
                  refine tl_u (i := 9) rfl (by rfl) (by kernel_rfl) (by kernel_rfl) (by kernel_rfl) (fun _ _ _ h => h) (by rfl) hHeld ?_
                  try simp only [Act.put, List.setIfInBounds_toArray, List.set_cons_zero, List.set_cons_succ]
                  refine tl_u (i := 10) rfl (by rfl) (by kernel_rfl) (by kernel_rfl) (by kernel_rfl) (fun _ _ _ h => h) (by rfl) hHeld ?_
                  try simp only [Act.put, List.setIfInBounds_toArray, List.set_cons_zero, List.set_cons_succ]
                  refine tl_u (i := 11) rfl (by rfl) (by kernel_rfl) (by kernel_rfl) (by kernel_rfl) (fun _ _ _ h => h) (by rfl) hHeld ?_
                  try simp only [Act.put, List.setIfInBounds_toArray, List.set_cons_zero, List.set_cons_succ]
                  refine tl_u (i := 12) rfl (by rfl) (by kernel_rfl) (by kernel_rfl) (by kernel_rfl) (fun _ _ _ h => h) (by rfl) hHeld ?_
                  try simp only [Act.put, List.setIfInBounds_toArray, List.set_cons_zero, List.set_cons_succ]
                  refine tl_u (i := 13) rfl (by rfl) (by kernel_rfl) (by kernel_rfl) (by kernel_rfl) (fun _ _ _ h => h) (by rfl) hHeld ?_
                  try simp only [Act.put, List.setIfInBounds_toArray, List.set_cons_zero, List.set_cons_succ]
                  refine tl_u (i := 14) rfl (by rfl) (by kernel_rfl) (by kernel_rfl) (by kernel_rfl) (fun _ _ _ h => h) (by rfl) hHeld ?_
                  try simp only [Act.put, List.setIfInBounds_toArray, List.set_cons_zero, List.set_cons_succ]
                  refine tl_u (i := 15) rfl (by rfl) (by kernel_rfl) (by kernel_rfl) (by kernel_rfl) (fun _ _ _ h => h) (by rfl) hHeld ?_
                  try simp only [Act.put, List.setIfInBounds_toArray, List.set_cons_zero, List.set_cons_succ]
                  refine tl_p (i := 16) (v := ?_) rfl (by rfl) (by kernel_rfl) (by kernel_rfl) (by kernel_rfl) (fun _ _ _ h => h) (by rfl) hHeld ?_ ?_
                  rotate_left
                  · intro w
                    go_simp
                    try (with_reducible rfl)
                  try simp only [Act.put, List.setIfInBounds_toArray, List.set_cons_zero, List.set_cons_succ]
                  refine tl_p (i := 17) (v := ?_) rfl (by rfl) (by kernel_rfl) (by kernel_rfl) (by kernel_rfl) (fun _ _ _ h => h) (by rfl) hHeld ?_ ?_
                  rotate_left
                  · intro w
                    go_simp
                    try (with_reducible rfl)
                  try simp only [Act.put, List.setIfInBounds_toArray, List.set_cons_zero, List.set_cons_succ]
                  refine tl_u (i := 18) rfl (by rfl) (by kernel_rfl) (by kernel_rfl) (by kernel_rfl) (fun _ _ _ h => h) (by rfl) hHeld ?_
                  try simp only [Act.put, List.setIfInBounds_toArray, List.set_cons_zero, List.set_cons_succ]
                  refine tl_u (i := 19) rfl (by rfl) (by kernel_rfl) (by kernel_rfl) (by kernel_rfl) (fun _ _ _ h => h) (by rfl) hHeld ?_
                  try simp only [Act.put, List.setIfInBounds_toArray, List.set_cons_zero, List.set_cons_succ]
                  refine tl_u (i := 20) rfl (by rfl) (by kernel_rfl) (by kernel_rfl) (by kernel_rfl) (fun _ _ _ h => h) (by rfl) hHeld ?_
                  try simp only [Act.put, List.setIfInBounds_toArray, List.set_cons_zero, List.set_cons_succ]
                  refine tl_u (i := 21) rfl (by rfl) (by kernel_rfl) (by kernel_rfl) (by kernel_rfl) (fun _ _ _ h => h) (by rfl) hHeld ?_
                  try simp only [Act.put, List.setIfInBounds_toArray, List.set_cons_zero, List.set_cons_succ]
                  refine tl_u (i := 22) rfl (by rfl) (by kernel_rfl) (by kernel_rfl) (by kernel_rfl) (fun _ _ _ h => h) (by rfl) hHeld ?_
                  try simp only [Act.put, List.setIfInBounds_toArray, List.set_cons_zero, List.set_cons_succ]
                  refine tl_u (i := 23) rfl (by rfl) (by kernel_rfl) (by kernel_rfl) (by kernel_rfl) (fun _ _ _ h => h) (by rfl) hHeld ?_
                  try simp only [Act.put, List.setIfInBounds_toArray, List.set_cons_zero, List.set_cons_succ]
                  refine tl_u (i := 24) rfl (by rfl) (by kernel_rfl) (by kernel_rfl) (by kernel_rfl) (fun _ _ _ h => h) (by rfl) hHeld ?_
                  try simp only [Act.put, List.setIfInBounds_toArray, List.set_cons_zero, List.set_cons_succ]
                  refine tl_u (i := 25) rfl (by rfl) (by kernel_rfl) (by kernel_rfl) (by kernel_rfl) (fun _ _ _ h => h) (by rfl) hHeld ?_
                  try simp only [Act.put, List.setIfInBounds_toArray, List.set_cons_zero, List.set_cons_succ]
                  refine tl_p (i := 26) (v := ?_) rfl (by rfl) (by kernel_rfl) (by kernel_rfl) (by kernel_rfl) (fun _ _ _ h => h) (by rfl) hHeld ?_ ?_
                  rotate_left
                  · intro w
                    go_simp
                    try (with_reducible rfl)
                  try simp only [Act.put, List.setIfInBounds_toArray, List.set_cons_zero, List.set_cons_succ]
                  refine tl_p (i := 27) (v := ?_) rfl (by rfl) (by kernel_rfl) (by kernel_rfl) (by kernel_rfl) (fun _ _ _ h => h) (by rfl) hHeld ?_ ?_
                  rotate_left
                  · intro w
                    go_simp
                    try (with_reducible rfl)
                  try simp only [Act.put, List.setIfInBounds_toArray, List.set_cons_zero, List.set_cons_succ]
                  refine tl_p (i := 28) (v := ?_) rfl (by rfl) (by kernel_rfl) (by kernel_rfl) (by kernel_rfl) (fun _ _ _ h => h) (by rfl) hHeld ?_ ?_
                  rotate_left
                  · intro w
                    go_simp
                    try (with_reducible rfl)
                  try simp only [Act.put, List.setIfInBounds_toArray, List.set_cons_zero, List.set_cons_succ]
                  refine tl_p (i := 29) (v := ?_) rfl (by rfl) (by kernel_rfl) (by kernel_rfl) (by kernel_rfl) (fun _ _ _ h => h) (by rfl) hHeld ?_ ?_
                  rotate_left
                  · intro w
                    go_simp
                    try (with_reducible rfl)
                  try simp only [Act.put, List.setIfInBounds_toArray, List.set_cons_zero, List.set_cons_succ]
                  refine till_done (by kernel_rfl) ?_ _
                  clear hHeld
                  go_wp2_with fail
                  go_roundw
                  case rel => exact ⟨m + 1, true, by omega, by go_num, rfl, hnew.out, hS4.out, hX4.out⟩
                  case measure => simp [intOf]; omega
                | true =>
                  rw [hoy] at kO
                  replace kO := Lib.hid kO
                  by_cases hy1 : y1 = x1
                  · have hy1' : (y1.toList == x1.toList) = true := by rw [hy1]; exact beq_self_eq_true _
                    by_cases hy2 : y2 = x2
                    · have hy2' : (y2.toList == x2.toList) = true := by rw [hy2]; exact beq_self_eq_true _
                      have hnew : false = !met (E.take (m + 1)) x1 x2 := by rw [hmt]; unfold at_; rw [hoy]; simp [hy1, hy2]
                      replace hnew := Lib.hid hnew
                      clear hfb hmt hoy hy1 hy2
                      go_upto_region 13 with fail
                      refine tl_begin (fun (w' : World) => (w'.cell? ⟨b, off + m * 13, none⟩ = some (.int .i64 y0) ∧ w'.cell? ⟨b, off + m * 13 + 1, none⟩ = some (.string y1) ∧ w'.cell? ⟨b, off + m * 13 + 2, none⟩ = some (.string y2) ∧ w'.cell? ⟨b, off + m * 13 + 3, none⟩ = some (.string y3) ∧ w'.cell? ⟨b, off + m * 13 + 4, none⟩ = some (.int .i64 y4) ∧ w'.cell? ⟨b, off + m * 13 + 5, none⟩ = some (.int .i64 y5) ∧ w'.cell? ⟨b, off + m * 13 + 6, none⟩ = some (.bool y6) ∧ w'.cell? ⟨b, off + m * 13 + 7, none⟩ = some (.int .i64 y7) ∧ w'.cell? ⟨b, off + m * 13 + 8, none⟩ = some (.int .i64 y8) ∧ w'.cell? ⟨b, off + m * 13 + 9, none⟩ = some (.int .i64 y9) ∧ w'.cell? ⟨b, off + m * 13 + 10, none⟩ = some (.bool y10) ∧ w'.cell? ⟨b, off + m * 13 + 11, none⟩ = some (.string y11) ∧ w'.cell? ⟨b, off + m * 13 + 12, none⟩ = some (.string y12)) ∧ w'.cell? ⟨q, 1, none⟩ = some (.string x1) ∧ w'.cell? ⟨q, 2, none⟩ = some (.string x2)) [] (by kernel_rfl) (⟨⟨p0, p1, p2, p3, p4, p5, p6, p7, p8, p9, p10, p11, p12⟩, s1, s2⟩) (fun hHeld => ?_)
                      refine tl_p (i := 0) (v := ?_) rfl (by rfl) (by kernel_rfl) (by kernel_rfl) (by kernel_rfl) (fun _ _ _ h => h) (by rfl) hHeld ?_ ?_
                      rotate_left
                      · intro w
                        go_simp
                        try (with_reducible rfl)
                      try simp only [Act.put, List.setIfInBounds_toArray, List.set_cons_zero, List.set_cons_succ]
                      refine tl_p (i := 1) (v := ?_) rfl (by rfl) (by kernel_rfl) (by kernel_rfl) (by kernel_rfl) (fun _ _ _ h => h) (by rfl) hHeld ?_ ?_
                      rotate_left
                      · intro w
                        go_simp
                        try (with_reducible rfl)
                      try simp only [Act.put, List.setIfInBounds_toArray, List.set_cons_zero, List.set_cons_succ]
                      refine tl_p (i := 2) (v := ?_) rfl (by rfl) (by kernel_rfl) (by kernel_rfl) (by kernel_rfl) (fun _ _ _ h => h) (by rfl) hHeld ?_ ?_
                      rotate_left
                      · intro w
                        go_simp
                        try (with_reducible rfl)
                      try simp only [Act.put, List.setIfInBounds_toArray, List.set_cons_zero, List.set_cons_succ]
                      refine tl_p (i := 3) (v := ?_) rfl (by rfl) (by kernel_rfl) (by kernel_rfl) (by kernel_rfl) (fun _ _ _ h => h) (by rfl) hHeld ?_ ?_
                      rotate_left
                      · intro w
                        go_simp
                        try (with_reducible rfl)
                      try simp only [Act.put, List.setIfInBounds_toArray, List.set_cons_zero, List.set_cons_succ]
                      refine tl_p (i := 4) (v := ?_) rfl (by rfl) (by kernel_rfl) (by kernel_rfl) (by kernel_rfl) (fun _ _ _ h => h) (by rfl) hHeld ?_ ?_
                      rotate_left
                      · intro w
                        go_simp
                        try (with_reducible rfl)
                      try simp only [Act.put, List.setIfInBounds_toArray, List.set_cons_zero, List.set_cons_succ]
                      refine tl_w (i := 5) (v := ?_) rfl (by rfl) (by kernel_rfl) (by kernel_rfl) (by kernel_rfl) (by kernel_rfl) (by kernel_rfl) (fun _ _ _ h => h) (by rfl) hHeld ?_ ?_
                      rotate_left
                      · intro w hSw
                        try dsimp only at hSw
                        go_simp
                        try (with_reducible rfl)
                      try simp only [Act.put, List.setIfInBounds_toArray, List.set_cons_zero, List.set_cons_succ]
                      refine tl_do (i := 6) rfl (by kernel_rfl) (by rfl) (fun K hK => ?_)
                      go_simp
                      go_at_call 75
                      refine kO.out.mono ?_; rintro e w4 ⟨rfl, hb4⟩
                      have hc := fun {o : Nat} {v : Value} (h : wr.drew.cell? ⟨b, o, none⟩ = some v) => (hb4.cell (p := ⟨b, o, none⟩) hbl).trans h
                      have hq4 := fun {o : Nat} {v : Value} (h : wr.drew.cell? ⟨q, o, none⟩ = some v) => (hb4.cell (p := ⟨q, o, none⟩) hql).trans h
                      have hcN := And.intro (And.intro (hc p0) (And.intro (hc p1) (And.intro (hc p2) (And.intro (hc p3) (And.intro (hc p4) (And.intro (hc p5) (And.intro (hc p6) (And.intro (hc p7) (And.intro (hc p8) (And.intro (hc p9) (And.intro (hc p10) (And.intro (hc p11) (hc p12))))))))))))) (And.intro (hq4 s1) (hq4 s2))
                      clear hc hq4
                      have hS4 := Lib.hid (hS.out.below hb4)
                      have hX4 := Lib.hid (hX.out.below hb4)
                      clear hb4
                      try go_wp2_with fail
                      refine hK.out _ _ (hcN) (fun hHeld1 => ?_)
                      clear hK K hHeld
                      have hHeld := hHeld1
                      clear hHeld1
                      try simp only [Act.put, List.setIfInBounds_toArray, List.set_cons_zero, List.set_cons_succ]
                      refine tl_p (i := 7) (v := ?_) rfl (by rfl) (by kernel_rfl) (by kernel_rfl) (by kernel_rfl) (fun _ _ _ h => h) (by rfl) hHeld ?_ ?_
                      rotate_left
                      · intro w
                        go_simp
                        try (with_reducible rfl)
                      try simp only [Act.put, List.setIfInBounds_toArray, List.set_cons_zero, List.set_cons_succ]
                      refine tl_p (i := 8) (v := ?_) rfl (by rfl) (by kernel_rfl) (by kernel_rfl) (by kernel_rfl) (fun _ _ _ h => h) (by rfl) hHeld ?_ ?_
                      rotate_left
                      · intro w
                        go_simp
                        try (with_reducible rfl)
                      try simp only [Act.put, List.setIfInBounds_toArray, List.set_cons_zero, List.set_cons_succ]
                      refine tl_p (i := 9) (v := ?_) rfl (by rfl) (by kernel_rfl) (by kernel_rfl) (by kernel_rfl) (fun _ _ _ h => h) (by rfl) hHeld ?_ ?_
                      rotate_left
                      · intro w
                        go_simp
                        try (with_reducible rfl)
                      try simp only [Act.put, List.setIfInBounds_toArray, List.set_cons_zero, List.set_cons_succ]
                      refine tl_p (i := 10) (v := ?_) rfl (by rfl) (by kernel_rfl) (by kernel_rfl) (by kernel_rfl) (fun _ _ _ h => h) (by rfl) hHeld ?_ ?_
                      rotate_left
                      · intro w
                        go_simp
                        try (with_reducible rfl)
                      try simp only [Act.put, List.setIfInBounds_toArray, List.set_cons_zero, List.set_cons_succ]
                      refine tl_p (i := 11) (v := ?_) rfl (by rfl) (by kernel_rfl) (by kernel_rfl) (by kernel_rfl) (fun _ _ _ h => h) (by rfl) hHeld ?_ ?_
                      rotate_left
                      · intro w
                        go_simp
                        try (with_reducible rfl)
                      try simp only [Act.put, List.setIfInBounds_toArray, List.set_cons_zero, List.set_cons_succ]
                      refine tl_w (i := 12) (v := ?_) rfl (by rfl) (by kernel_rfl) (by kernel_rfl) (by kernel_rfl) (by kernel_rfl) (by kernel_rfl) (fun _ _ _ h => h) (by rfl) hHeld ?_ ?_
                      rotate_left
                      · intro w hSw
                        try dsimp only at hSw
                        go_simp
                        try (with_reducible rfl)
                      try simp only [Act.put, List.setIfInBounds_toArray, List.set_cons_zero, List.set_cons_succ]
                      refine tl_p (i := 13) (v := ?_) rfl (by rfl) (by kernel_rfl) (by kernel_rfl) (by kernel_rfl) (fun _ _ _ h => h) (by rfl) hHeld ?_ ?_
                      rotate_left
                      · intro w
                        go_simp
                        try (with_reducible rfl)
                      try simp only [Act.put, List.setIfInBounds_toArray, List.set_cons_zero, List.set_cons_succ]
                      refine tl_w (i := 14) (v := ?_) rfl (by rfl) (by kernel_rfl) (by kernel_rfl) (by kernel_rfl) (by kernel_rfl) (by kernel_rfl) (fun _ _ _ h => h) (by rfl) hHeld ?_ ?_
                      rotate_left
                      · intro w hSw
                        try dsimp only at hSw
                        go_simp
                        try (with_reducible rfl)
                      try simp only [Act.put, List.setIfInBounds_toArray, List.set_cons_zero, List.set_cons_succ]
                      refine tl_p (i := 15) (v := ?_) rfl (by rfl) (by kernel_rfl) (by kernel_rfl) (by kernel_rfl) (fun _ _ _ h => h) (by rfl) hHeld ?_ ?_
                      rotate_left
                      · intro w
                        go_simp
                        try (with_reducible rfl)
                      try simp only [Act.put, List.setIfInBounds_toArray, List.set_cons_zero, List.set_cons_succ]
                      refine tl_p (i := 16) (v := ?_) rfl (by rfl) (by kernel_rfl) (by kernel_rfl) (by kernel_rfl) (fun _ _ _ h => h) (by rfl) hHeld ?_ ?_
                      rotate_left
                      · intro w
                        go_simp
                        try (with_reducible rfl)
                      try simp only [Act.put, List.setIfInBounds_toArray, List.set_cons_zero, List.set_cons_succ]
                      refine tl_p (i := 17) (v := ?_) rfl (by rfl) (by kernel_rfl) (by kernel_rfl) (by kernel_rfl) (fun _ _ _ h => h) (by rfl) hHeld ?_ ?_
                      rotate_left
                      · intro w
                        go_simp
                        try (with_reducible rfl)
                      try simp only [Act.put, List.setIfInBounds_toArray, List.set_cons_zero, List.set_cons_succ]
                      refine tl_p (i := 18) (v := ?_) rfl (by rfl) (by kernel_rfl) (by kernel_rfl) (by kernel_rfl) (fun _ _ _ h => h) (by rfl) hHeld ?_ ?_
                      rotate_left
                      · intro w
                        go_simp
                        try (with_reducible rfl)
                      try simp only [Act.put, List.setIfInBounds_toArray, List.set_cons_zero, List.set_cons_succ]
                      refine tl_p (i := 19) (v := ?_) rfl (by rfl) (by kernel_rfl) (by kernel_rfl) (by kernel_rfl) (fun _ _ _ h => h) (by rfl) hHeld ?_ ?_
                      rotate_left
                      · intro w
                        go_simp
                        try (with_reducible rfl)
                      try simp only [Act.put, List.setIfInBounds_toArray, List.set_cons_zero, List.set_cons_succ]
                      refine tl_p (i := 20) (v := ?_) rfl (by rfl) (by kernel_rfl) (by kernel_rfl) (by kernel_rfl) (fun _ _ _ h => h) (by rfl) hHeld ?_ ?_
                      rotate_left
                      · intro w
                        go_simp
                        try (with_reducible rfl)
                      try simp only [Act.put, List.setIfInBounds_toArray, List.set_cons_zero, List.set_cons_succ]
                      refine tl_p (i := 21) (v := ?_) rfl (by rfl) (by kernel_rfl) (by kernel_rfl) (by kernel_rfl) (fun _ _ _ h => h) (by rfl) hHeld ?_ ?_
                      rotate_left
                      · intro w
                        go_simp
                        try (with_reducible rfl)
                      try simp only [Act.put, List.setIfInBounds_toArray, List.set_cons_zero, List.set_cons_succ]
                      refine tl_w (i := 22) (v := ?_) rfl (by rfl) (by kernel_rfl) (by kernel_rfl) (by kernel_rfl) (by kernel_rfl) (by kernel_rfl) (fun _ _ _ h => h) (by rfl) hHeld ?_ ?_
                      rotate_left
                      · intro w hSw
                        try dsimp only at hSw
                        go_simp
                        try (with_reducible rfl)
                      try simp only [Act.put, List.setIfInBounds_toArray, List.set_cons_zero, List.set_cons_succ]
                      refine tl_p (i := 23) (v := ?_) rfl (by rfl) (by kernel_rfl) (by kernel_rfl) (by kernel_rfl) (fun _ _ _ h => h) (by rfl) hHeld ?_ ?_
                      rotate_left
                      · intro w
                        go_simp
                        try (with_reducible rfl)
                      try simp only [Act.put, List.setIfInBounds_toArray, List.set_cons_zero, List.set_cons_succ]
                      refine tl_w (i := 24) (v := ?_) rfl (by rfl) (by kernel_rfl) (by kernel_rfl) (by kernel_rfl) (by kernel_rfl) (by kernel_rfl) (fun _ _ _ h => h) (by rfl) hHeld ?_ ?_
                      rotate_left
                      · intro w hSw
                        try dsimp only at hSw
                        go_simp
                        try (with_reducible rfl)
                      try simp only [Act.put, List.setIfInBounds_toArray, List.set_cons_zero, List.set_cons_succ]
                      refine tl_p (i := 25) (v := ?_) rfl (by rfl) (by kernel_rfl) (by kernel_rfl) (by kernel_rfl) (fun _ _ _ h => h) (by rfl) hHeld ?_ ?_
                      rotate_left
                      · intro w
                        go_simp
                        try (with_reducible rfl)
                      try simp only [Act.put, List.setIfInBounds_toArray, List.set_cons_zero, List.set_cons_succ]
                      refine tl_p (i := 26) (v := ?_) rfl (by rfl) (by kernel_rfl) (by kernel_rfl) (by kernel_rfl) (fun _ _ _ h => h) (by rfl) hHeld ?_ ?_
                      rotate_left
                      · intro w
                        go_simp
                        try (with_reducible rfl)
                      try simp only [Act.put, List.setIfInBounds_toArray, List.set_cons_zero, List.set_cons_succ]
                      refine tl_p (i := 27) (v := ?_) rfl (by rfl) (by kernel_rfl) (by kernel_rfl) (by kernel_rfl) (fun _ _ _ h => h) (by rfl) hHeld ?_ ?_
                      rotate_left
                      · intro w
                        go_simp
                        try (with_reducible rfl)
                      try simp only [Act.put, List.setIfInBounds_toArray, List.set_cons_zero, List.set_cons_succ]
                      refine tl_p (i := 28) (v := ?_) rfl (by rfl) (by kernel_rfl) (by kernel_rfl) (by kernel_rfl) (fun _ _ _ h => h) (by rfl) hHeld ?_ ?_
                      rotate_left
                      · intro w
                        go_simp
                        try (with_reducible rfl)
                      try simp only [Act.put, List.setIfInBounds_toArray, List.set_cons_zero, List.set_cons_succ]
                      refine tl_p (i := 29) (v := ?_) rfl (by rfl) (by kernel_rfl) (by kernel_rfl) (by kernel_rfl) (fun _ _ _ h => h) (by rfl) hHeld ?_ ?_
                      rotate_left
                      · intro w
                        go_simp
                        try (with_reducible rfl)
                      try simp only [Act.put, List.setIfInBounds_toArray, List.set_cons_zero, List.set_cons_succ]
                      refine till_done (by kernel_rfl) ?_ _
                      clear hHeld
                      go_wp2_with fail
                      go_roundw
                      case rel => exact ⟨m + 1, false, by omega, by go_num, rfl, hnew.out, hS4.out, hX4.out⟩
                      case measure => simp [intOf]; omega
                    · have hy2' := str_ne hy2
                      have hnew : true = !met (E.take (m + 1)) x1 x2 := by rw [hmt]; unfold at_; rw [hoy]; simp [hy2]
                      replace hnew := Lib.hid hnew
                      clear hfb hmt hoy hy1 hy2
                      go_upto_region 13 with fail
                      refine tl_begin (fun (w' : World) => (w'.cell? ⟨b, off + m * 13, none⟩ = some (.int .i64 y0) ∧ w'.cell? ⟨b, off + m * 13 + 1, none⟩ = some (.string y1) ∧ w'.cell? ⟨b, off + m * 13 + 2, none⟩ = some (.string y2) ∧ w'.cell? ⟨b, off + m * 13 + 3, none⟩ = some (.string y3) ∧ w'.cell? ⟨b, off + m * 13 + 4, none⟩ = some (.int .i64 y4) ∧ w'.cell? ⟨b, off + m * 13 + 5, none⟩ = some (.int .i64 y5) ∧ w'.cell? ⟨b, off + m * 13 + 6, none⟩ = some (.bool y6) ∧ w'.cell? ⟨b, off + m * 13 + 7, none⟩ = some (.int .i64 y7) ∧ w'.cell? ⟨b, off + m * 13 + 8, none⟩ = some (.int .i64 y8) ∧ w'.cell? ⟨b, off + m * 13 + 9, none⟩ = some (.int .i64 y9) ∧ w'.cell? ⟨b, off + m * 13 + 10, none⟩ = some (.bool y10) ∧ w'.cell? ⟨b, off + m * 13 + 11, none⟩ = some (.string y11) ∧ w'.cell? ⟨b, off + m * 13 + 12, none⟩ = some (.string y12)) ∧ w'.cell? ⟨q, 1, none⟩ = some (.string x1) ∧ w'.cell? ⟨q, 2, none⟩ = some (.string x2)) [] (by kernel_rfl) (⟨⟨p0, p1, p2, p3, p4, p5, p6, p7, p8, p9, p10, p11, p12⟩, s1, s2⟩) (fun hHeld => ?_)
                      refine tl_p (i := 0) (v := ?_) rfl (by rfl) (by kernel_rfl) (by kernel_rfl) (by kernel_rfl) (fun _ _ _ h => h) (by rfl) hHeld ?_ ?_
                      rotate_left
                      · intro w
                        go_simp
                        try (with_reducible rfl)
                      try simp only [Act.put, List.setIfInBounds_toArray, List.set_cons_zero, List.set_cons_succ]
                      refine tl_p (i := 1) (v := ?_) rfl (by rfl) (by kernel_rfl) (by kernel_rfl) (by kernel_rfl) (fun _ _ _ h => h) (by rfl) hHeld ?_ ?_
                      rotate_left
                      · intro w
                        go_simp
                        try (with_reducible rfl)
                      try simp only [Act.put, List.setIfInBounds_toArray, List.set_cons_zero, List.set_cons_succ]
                      refine tl_p (i := 2) (v := ?_) rfl (by rfl) (by kernel_rfl) (by kernel_rfl) (by kernel_rfl) (fun _ _ _ h => h) (by rfl) hHeld ?_ ?_
                      rotate_left
                      · intro w
                        go_simp
                        try (with_reducible rfl)
                      try simp only [Act.put, List.setIfInBounds_toArray, List.set_cons_zero, List.set_cons_succ]
                      refine tl_p (i := 3) (v := ?_) rfl (by rfl) (by kernel_rfl) (by kernel_rfl) (by kernel_rfl) (fun _ _ _ h => h) (by rfl) hHeld ?_ ?_
                      rotate_left
                      · intro w
                        go_simp
                        try (with_reducible rfl)
                      try simp only [Act.put, List.setIfInBounds_toArray, List.set_cons_zero, List.set_cons_succ]
                      refine tl_p (i := 4) (v := ?_) rfl (by rfl) (by kernel_rfl) (by kernel_rfl) (by kernel_rfl) (fun _ _ _ h => h) (by rfl) hHeld ?_ ?_
                      rotate_left
                      · intro w
                        go_simp
                        try (with_reducible rfl)
                      try simp only [Act.put, List.setIfInBounds_toArray, List.set_cons_zero, List.set_cons_succ]
                      refine tl_w (i := 5) (v := ?_) rfl (by rfl) (by kernel_rfl) (by kernel_rfl) (by kernel_rfl) (by kernel_rfl) (by kernel_rfl) (fun _ _ _ h => h) (by rfl) hHeld ?_ ?_
                      rotate_left
                      · intro w hSw
                        try dsimp only at hSw
                        go_simp
                        try (with_reducible rfl)
                      try simp only [Act.put, List.setIfInBounds_toArray, List.set_cons_zero, List.set_cons_succ]
                      refine tl_do (i := 6) rfl (by kernel_rfl) (by rfl) (fun K hK => ?_)
                      go_simp
                      go_at_call 75
                      refine kO.out.mono ?_; rintro e w4 ⟨rfl, hb4⟩
                      have hc := fun {o : Nat} {v : Value} (h : wr.drew.cell? ⟨b, o, none⟩ = some v) => (hb4.cell (p := ⟨b, o, none⟩) hbl).trans h
                      have hq4 := fun {o : Nat} {v : Value} (h : wr.drew.cell? ⟨q, o, none⟩ = some v) => (hb4.cell (p := ⟨q, o, none⟩) hql).trans h
                      have hcN := And.intro (And.intro (hc p0) (And.intro (hc p1) (And.intro (hc p2) (And.intro (hc p3) (And.intro (hc p4) (And.intro (hc p5) (And.intro (hc p6) (And.intro (hc p7) (And.intro (hc p8) (And.intro (hc p9) (And.intro (hc p10) (And.intro (hc p11) (hc p12))))))))))))) (And.intro (hq4 s1) (hq4 s2))
                      clear hc hq4
                      have hS4 := Lib.hid (hS.out.below hb4)
                      have hX4 := Lib.hid (hX.out.below hb4)
                      clear hb4
                      try go_wp2_with fail
                      refine hK.out _ _ (hcN) (fun hHeld1 => ?_)
                      clear hK K hHeld
                      have hHeld := hHeld1
                      clear hHeld1
                      try simp only [Act.put, List.setIfInBounds_toArray, List.set_cons_zero, List.set_cons_succ]
                      refine tl_p (i := 7) (v := ?_) rfl (by rfl) (by kernel_rfl) (by kernel_rfl) (by kernel_rfl) (fun _ _ _ h => h) (by rfl) hHeld ?_ ?_
                      rotate_left
                      · intro w
                        go_simp
                        try (with_reducible rfl)
                      try simp only [Act.put, List.setIfInBounds_toArray, List.set_cons_zero, List.set_cons_succ]
                      refine tl_p (i := 8) (v := ?_) rfl (by rfl) (by kernel_rfl) (by kernel_rfl) (by kernel_rfl) (fun _ _ _ h => h) (by rfl) hHeld ?_ ?_
                      rotate_left
                      · intro w
                        go_simp
                        try (with_reducible rfl)
                      try simp only [Act.put, List.setIfInBounds_toArray, List.set_cons_zero, List.set_cons_succ]
                      refine tl_p (i := 9) (v := ?_) rfl (by rfl) (by kernel_rfl) (by kernel_rfl) (by kernel_rfl) (fun _ _ _ h => h) (by rfl) hHeld ?_ ?_
                      rotate_left
                      · intro w
                        go_simp
                        try (with_reducible rfl)
                      try simp only [Act.put, List.setIfInBounds_toArray, List.set_cons_zero, List.set_cons_succ]
                      refine tl_p (i := 10) (v := ?_) rfl (by rfl) (by kernel_rfl) (by kernel_rfl) (by kernel_rfl) (fun _ _ _ h => h) (by rfl) hHeld ?_ ?_
                      rotate_left
                      · intro w
                        go_simp
                        try (with_reducible rfl)
                      try simp only [Act.put, List.setIfInBounds_toArray, List.set_cons_zero, List.set_cons_succ]
                      refine tl_p (i := 11) (v := ?_) rfl (by rfl) (by kernel_rfl) (by kernel_rfl) (by kernel_rfl) (fun _ _ _ h => h) (by rfl) hHeld ?_ ?_
                      rotate_left
                      · intro w
                        go_simp
                        try (with_reducible rfl)
                      try simp only [Act.put, List.setIfInBounds_toArray, List.set_cons_zero, List.set_cons_succ]
                      refine tl_w (i := 12) (v := ?_) rfl (by rfl) (by kernel_rfl) (by kernel_rfl) (by kernel_rfl) (by kernel_rfl) (by kernel_rfl) (fun _ _ _ h => h) (by rfl) hHeld ?_ ?_
                      rotate_left
                      · intro w hSw
                        try dsimp only at hSw
                        go_simp
                        try (with_reducible rfl)
                      try simp only [Act.put, List.setIfInBounds_toArray, List.set_cons_zero, List.set_cons_succ]
                      refine tl_p (i := 13) (v := ?_) rfl (by rfl) (by kernel_rfl) (by kernel_rfl) (by kernel_rfl) (fun _ _ _ h => h) (by rfl) hHeld ?_ ?_
                      rotate_left
                      · intro w
                        go_simp
                        try (with_reducible rfl)
                      try simp only [Act.put, List.setIfInBounds_toArray, List.set_cons_zero, List.set_cons_succ]
                      refine tl_w (i := 14) (v := ?_) rfl (by rfl) (by kernel_rfl) (by kernel_rfl) (by kernel_rfl) (by kernel_rfl) (by kernel_rfl) (fun _ _ _ h => h) (by rfl) hHeld ?_ ?_
                      rotate_left
                      · intro w hSw
                        try dsimp only at hSw
                        go_simp
                        try (with_reducible rfl)
                      try simp only [Act.put, List.setIfInBounds_toArray, List.set_cons_zero, List.set_cons_succ]
                      refine tl_p (i := 15) (v := ?_) rfl (by rfl) (by kernel_rfl) (by kernel_rfl) (by kernel_rfl) (fun _ _ _ h => h) (by rfl) hHeld ?_ ?_
                      rotate_left
                      · intro w
                        go_simp
                        try (with_reducible rfl)
                      try simp only [Act.put, List.setIfInBounds_toArray, List.set_cons_zero, List.set_cons_succ]
                      refine tl_p (i := 16) (v := ?_) rfl (by rfl) (by kernel_rfl) (by kernel_rfl) (by kernel_rfl) (fun _ _ _ h => h) (by rfl) hHeld ?_ ?_
                      rotate_left
                      · intro w
                        go_simp
                        try (with_reducible rfl)
                      try simp only [Act.put, List.setIfInBounds_toArray, List.set_cons_zero, List.set_cons_succ]
                      refine tl_p (i := 17) (v := ?_) rfl (by rfl) (by kernel_rfl) (by kernel_rfl) (by kernel_rfl) (fun _ _ _ h => h) (by rfl) hHeld ?_ ?_
                      rotate_left
                      · intro w
                        go_simp
                        try (with_reducible rfl)
                      try simp only [Act.put, List.setIfInBounds_toArray, List.set_cons_zero, List.set_cons_succ]
                      refine tl_p (i := 18) (v := ?_) rfl (by rfl) (by kernel_rfl) (by kernel_rfl) (by kernel_rfl) (fun _ _ _ h => h) (by rfl) hHeld ?_ ?_
                      rotate_left
                      · intro w
                        go_simp
                        try (with_reducible rfl)
                      try simp only [Act.put, List.setIfInBounds_toArray, List.set_cons_zero, List.set_cons_succ]
                      refine tl_p (i := 19) (v := ?_) rfl (by rfl) (by kernel_rfl) (by kernel_rfl) (by kernel_rfl) (fun _ _ _ h => h) (by rfl) hHeld ?_ ?_
                      rotate_left
                      · intro w
                        go_simp
                        try (with_reducible rfl)
                      try simp only [Act.put, List.setIfInBounds_toArray, List.set_cons_zero, List.set_cons_succ]
                      refine tl_p (i := 20) (v := ?_) rfl (by rfl) (by kernel_rfl) (by kernel_rfl) (by kernel_rfl) (fun _ _ _ h => h) (by rfl) hHeld ?_ ?_
                      rotate_left
                      · intro w
                        go_simp
                        try (with_reducible rfl)
                      try simp only [Act.put, List.setIfInBounds_toArray, List.set_cons_zero, List.set_cons_succ]
                      refine tl_p (i := 21) (v := ?_) rfl (by rfl) (by kernel_rfl) (by kernel_rfl) (by kernel_rfl) (fun _ _ _ h => h) (by rfl) hHeld ?_ ?_
                      rotate_left
                      · intro w
                        go_simp
                        try (with_reducible rfl)
                      try simp only [Act.put, List.setIfInBounds_toArray, List.set_cons_zero, List.set_cons_succ]
                      refine tl_w (i := 22) (v := ?_) rfl (by rfl) (by kernel_rfl) (by kernel_rfl) (by kernel_rfl) (by kernel_rfl) (by kernel_rfl) (fun _ _ _ h => h) (by rfl) hHeld ?_ ?_
                      rotate_left
                      · intro w hSw
                        try dsimp only at hSw
                        go_simp
                        try (with_reducible rfl)
                      try simp only [Act.put, List.setIfInBounds_toArray, List.set_cons_zero, List.set_cons_succ]
                      refine tl_p (i := 23) (v := ?_) rfl (by rfl) (by kernel_rfl) (by kernel_rfl) (by kernel_rfl) (fun _ _ _ h => h) (by rfl) hHeld ?_ ?_
                      rotate_left
                      · intro w
                        go_simp
                        try (with_reducible rfl)
                      try simp only [Act.put, List.setIfInBounds_toArray, List.set_cons_zero, List.set_cons_succ]
                      refine tl_w (i := 24) (v := ?_) rfl (by rfl) (by kernel_rfl) (by kernel_rfl) (by kernel_rfl) (by kernel_rfl) (by kernel_rfl) (fun _ _ _ h => h) (by rfl) hHeld ?_ ?_
                      rotate_left
                      · intro w hSw
                        try dsimp only at hSw
                        go_simp
                        try (with_reducible rfl)
                      try simp only [Act.put, List.setIfInBounds_toArray, List.set_cons_zero, List.set_cons_succ]
                      refine tl_p (i := 25) (v := ?_) rfl (by rfl) (by kernel_rfl) (by kernel_rfl) (by kernel_rfl) (fun _ _ _ h => h) (by rfl) hHeld ?_ ?_
                      rotate_left
                      · intro w
                        go_simp
                        try (with_reducible rfl)
                      try simp only [Act.put, List.setIfInBounds_toArray, List.set_cons_zero, List.set_cons_succ]
                      refine tl_p (i := 26) (v := ?_) rfl (by rfl) (by kernel_rfl) (by kernel_rfl) (by kernel_rfl) (fun _ _ _ h => h) (by rfl) hHeld ?_ ?_
                      rotate_left
                      · intro w
                        go_simp
                        try (with_reducible rfl)
                      try simp only [Act.put, List.setIfInBounds_toArray, List.set_cons_zero, List.set_cons_succ]
                      refine tl_p (i := 27) (v := ?_) rfl (by rfl) (by kernel_rfl) (by kernel_rfl) (by kernel_rfl) (fun _ _ _ h => h) (by rfl) hHeld ?_ ?_
                      rotate_left
                      · intro w
                        go_simp
                        try (with_reducible rfl)
                      try simp only [Act.put, List.setIfInBounds_toArray, List.set_cons_zero, List.set_cons_succ]
                      refine tl_p (i := 28) (v := ?_) rfl (by rfl) (by kernel_rfl) (by kernel_rfl) (by kernel_rfl) (fun _ _ _ h => h) (by rfl) hHeld ?_ ?_
                      rotate_left
                      · intro w
                        go_simp
                        try (with_reducible rfl)
                      try simp only [Act.put, List.setIfInBounds_toArray, List.set_cons_zero, List.set_cons_succ]
                      refine tl_p (i := 29) (v := ?_) rfl (by rfl) (by kernel_rfl) (by kernel_rfl) (by kernel_rfl) (fun _ _ _ h => h) (by rfl) hHeld ?_ ?_
                      rotate_left
                      · intro w
                        go_simp
                        try (with_reducible rfl)
                      try simp only [Act.put, List.setIfInBounds_toArray, List.set_cons_zero, List.set_cons_succ]
                      refine till_done (by kernel_rfl) ?_ _
                      clear hHeld
                      go_wp2_with fail
                      go_roundw
                      case rel => exact ⟨m + 1, true, by omega, by go_num, rfl, hnew.out, hS4.out, hX4.out⟩
                      case measure => simp [intOf]; omega
                  · have hy1' := str_ne hy1
                    have hnew : true = !met (E.take (m + 1)) x1 x2 := by rw [hmt]; unfold at_; rw [hoy]; simp [hy1]
                    replace hnew := Lib.hid hnew
                    clear hfb hmt hoy
                    go_upto_region 13 with fail
                    refine tl_begin (fun (w' : World) => (w'.cell? ⟨b, off + m * 13, none⟩ = some (.int .i64 y0) ∧ w'.cell? ⟨b, off + m * 13 + 1, none⟩ = some (.string y1) ∧ w'.cell? ⟨b, off + m * 13 + 2, none⟩ = some (.string y2) ∧ w'.cell? ⟨b, off + m * 13 + 3, none⟩ = some (.string y3) ∧ w'.cell? ⟨b, off + m * 13 + 4, none⟩ = some (.int .i64 y4) ∧ w'.cell? ⟨b, off + m * 13 + 5, none⟩ = some (.int .i64 y5) ∧ w'.cell? ⟨b, off + m * 13 + 6, none⟩ = some (.bool y6) ∧ w'.cell? ⟨b, off + m * 13 + 7, none⟩ = some (.int .i64 y7) ∧ w'.cell? ⟨b, off + m * 13 + 8, none⟩ = some (.int .i64 y8) ∧ w'.cell? ⟨b, off + m * 13 + 9, none⟩ = some (.int .i64 y9) ∧ w'.cell? ⟨b, off + m * 13 + 10, none⟩ = some (.bool y10) ∧ w'.cell? ⟨b, off + m * 13 + 11, none⟩ = some (.string y11) ∧ w'.cell? ⟨b, off + m * 13 + 12, none⟩ = some (.string y12)) ∧ w'.cell? ⟨q, 1, none⟩ = some (.string x1) ∧ w'.cell? ⟨q, 2, none⟩ = some (.string x2)) [] (by kernel_rfl) (⟨⟨p0, p1, p2, p3, p4, p5, p6, p7, p8, p9, p10, p11, p12⟩, s1, s2⟩) (fun hHeld => ?_)
                    refine tl_p (i := 0) (v := ?_) rfl (by rfl) (by kernel_rfl) (by kernel_rfl) (by kernel_rfl) (fun _ _ _ h => h) (by rfl) hHeld ?_ ?_
                    rotate_left
                    · intro w
                      go_simp
                      try (with_reducible rfl)
                    try simp only [Act.put, List.setIfInBounds_toArray, List.set_cons_zero, List.set_cons_succ]
                    refine tl_p (i := 1) (v := ?_) rfl (by rfl) (by kernel_rfl) (by kernel_rfl) (by kernel_rfl) (fun _ _ _ h => h) (by rfl) hHeld ?_ ?_
                    rotate_left
                    · intro w
                      go_simp
                      try (with_reducible rfl)
                    try simp only [Act.put, List.setIfInBounds_toArray, List.set_cons_zero, List.set_cons_succ]
                    refine tl_p (i := 2) (v := ?_) rfl (by rfl) (by kernel_rfl) (by kernel_rfl) (by kernel_rfl) (fun _ _ _ h => h) (by rfl) hHeld ?_ ?_
                    rotate_left
                    · intro w
                      go_simp
                      try (with_reducible rfl)
                    try simp only [Act.put, List.setIfInBounds_toArray, List.set_cons_zero, List.set_cons_succ]
                    refine tl_p (i := 3) (v := ?_) rfl (by rfl) (by kernel_rfl) (by kernel_rfl) (by kernel_rfl) (fun _ _ _ h => h) (by rfl) hHeld ?_ ?_
                    rotate_left
                    · intro w
                      go_simp
                      try (with_reducible rfl)
                    try simp only [Act.put, List.setIfInBounds_toArray, List.set_cons_zero, List.set_cons_succ]
                    refine tl_p (i := 4) (v := ?_) rfl (by rfl) (by kernel_rfl) (by kernel_rfl) (by kernel_rfl) (fun _ _ _ h => h) (by rfl) hHeld ?_ ?_
                    rotate_left
                    · intro w
                      go_simp
                      try (with_reducible rfl)
                    try simp only [Act.put, List.setIfInBounds_toArray, List.set_cons_zero, List.set_cons_succ]
                    refine tl_w (i := 5) (v := ?_) rfl (by rfl) (by kernel_rfl) (by kernel_rfl) (by kernel_rfl) (by kernel_rfl) (by kernel_rfl) (fun _ _ _ h => h) (by rfl) hHeld ?_ ?_
                    rotate_left
                    · intro w hSw
                      try dsimp only at hSw
                      go_simp
                      try (with_reducible rfl)
                    try simp only [Act.put, List.setIfInBounds_toArray, List.set_cons_zero, List.set_cons_succ]
                    refine tl_do (i := 6) rfl (by kernel_rfl) (by rfl) (fun K hK => ?_)
                    go_simp
                    go_at_call 75
                    refine kO.out.mono ?_; rintro e w4 ⟨rfl, hb4⟩
                    have hc := fun {o : Nat} {v : Value} (h : wr.drew.cell? ⟨b, o, none⟩ = some v) => (hb4.cell (p := ⟨b, o, none⟩) hbl).trans h
                    have hq4 := fun {o : Nat} {v : Value} (h : wr.drew.cell? ⟨q, o, none⟩ = some v) => (hb4.cell (p := ⟨q, o, none⟩) hql).trans h
                    have hcN := And.intro (And.intro (hc p0) (And.intro (hc p1) (And.intro (hc p2) (And.intro (hc p3) (And.intro (hc p4) (And.intro (hc p5) (And.intro (hc p6) (And.intro (hc p7) (And.intro (hc p8) (And.intro (hc p9) (And.intro (hc p10) (And.intro (hc p11) (hc p12))))))))))))) (And.intro (hq4 s1) (hq4 s2))
                    clear hc hq4
                    have hS4 := Lib.hid (hS.out.below hb4)
                    have hX4 := Lib.hid (hX.out.below hb4)
                    clear hb4
                    try go_wp2_with fail
                    refine hK.out _ _ (hcN) (fun hHeld1 => ?_)
                    clear hK K hHeld
                    have hHeld := hHeld1
                    clear hHeld1
                    try simp only [Act.put, List.setIfInBounds_toArray, List.set_cons_zero, List.set_cons_succ]
                    refine tl_p (i := 7) (v := ?_) rfl (by rfl) (by kernel_rfl) (by kernel_rfl) (by kernel_rfl) (fun _ _ _ h => h) (by rfl) hHeld ?_ ?_
                    rotate_left
                    · intro w
                      go_simp
                      try (with_reducible rfl)
                    try simp only [Act.put, List.setIfInBounds_toArray, List.set_cons_zero, List.set_cons_succ]
                    refine tl_p (i := 8) (v := ?_) rfl (by rfl) (by kernel_rfl) (by kernel_rfl) (by kernel_rfl) (fun _ _ _ h => h) (by rfl) hHeld ?_ ?_
                    rotate_left
                    · intro w
                      go_simp
                      try (with_reducible rfl)
                    try simp only [Act.put, List.setIfInBounds_toArray, List.set_cons_zero, List.set_cons_succ]
                    refine tl_p (i := 9) (v := ?_) rfl (by rfl) (by kernel_rfl) (by kernel_rfl) (by kernel_rfl) (fun _ _ _ h => h) (by rfl) hHeld ?_ ?_
                    rotate_left
                    · intro w
                      go_simp
                      try (with_reducible rfl)
                    try simp only [Act.put, List.setIfInBounds_toArray, List.set_cons_zero, List.set_cons_succ]
                    refine tl_p (i := 10) (v := ?_) rfl (by rfl) (by kernel_rfl) (by kernel_rfl) (by kernel_rfl) (fun _ _ _ h => h) (by rfl) hHeld ?_ ?_
                    rotate_left
                    · intro w
                      go_simp
                      try (with_reducible rfl)
                    try simp only [Act.put, List.setIfInBounds_toArray, List.set_cons_zero, List.set_cons_succ]
                    refine tl_p (i := 11) (v := ?_) rfl (by rfl) (by kernel_rfl) (by kernel_rfl) (by kernel_rfl) (fun _ _ _ h => h) (by rfl) hHeld ?_ ?_
                    rotate_left
                    · intro w
                      go_simp
                      try (with_reducible rfl)
                    try simp only [Act.put, List.setIfInBounds_toArray, List.set_cons_zero, List.set_cons_succ]
                    refine tl_w (i := 12) (v := ?_) rfl (by rfl) (by kernel_rfl) (by kernel_rfl) (by kernel_rfl) (by kernel_rfl) (by kernel_rfl) (fun _ _ _ h => h) (by rfl) hHeld ?_ ?_
                    rotate_left
                    · intro w hSw
                      try dsimp only at hSw
                      go_simp
                      try (with_reducible rfl)
                    try simp only [Act.put, List.setIfInBounds_toArray, List.set_cons_zero, List.set_cons_succ]
                    refine tl_p (i := 13) (v := ?_) rfl (by rfl) (by kernel_rfl) (by kernel_rfl) (by kernel_rfl) (fun _ _ _ h => h) (by rfl) hHeld ?_ ?_
                    rotate_left
                    · intro w
                      go_simp
                      try (with_reducible rfl)
                    try simp only [Act.put, List.setIfInBounds_toArray, List.set_cons_zero, List.set_cons_succ]
                    refine tl_w (i := 14) (v := ?_) rfl (by rfl) (by kernel_rfl) (by kernel_rfl) (by kernel_rfl) (by kernel_rfl) (by kernel_rfl) (fun _ _ _ h => h) (by rfl) hHeld ?_ ?_
                    rotate_left
                    · intro w hSw
                      try dsimp only at hSw
                      go_simp
                      try (with_reducible rfl)
                    try simp only [Act.put, List.setIfInBounds_toArray, List.set_cons_zero, List.set_cons_succ]
                    refine tl_p (i := 15) (v := ?_) rfl (by rfl) (by kernel_rfl) (by kernel_rfl) (by kernel_rfl) (fun _ _ _ h => h) (by rfl) hHeld ?_ ?_
                    rotate_left
                    · intro w
                      go_simp
                      try (with_reducible rfl)
                    try simp only [Act.put, List.setIfInBounds_toArray, List.set_cons_zero, List.set_cons_succ]
                    refine tl_p (i := 16) (v := ?_) rfl (by rfl) (by kernel_rfl) (by kernel_rfl) (by kernel_rfl) (fun _ _ _ h => h) (by rfl) hHeld ?_ ?_
                    rotate_left
                    · intro w
                      go_simp
                      try (with_reducible rfl)
                    try simp only [Act.put, List.setIfInBounds_toArray, List.set_cons_zero, List.set_cons_succ]
                    refine tl_p (i := 17) (v := ?_) rfl (by rfl) (by kernel_rfl) (by kernel_rfl) (by kernel_rfl) (fun _ _ _ h => h) (by rfl) hHeld ?_ ?_
                    rotate_left
                    · intro w
                      go_simp
                      try (with_reducible rfl)
                    try simp only [Act.put, List.setIfInBounds_toArray, List.set_cons_zero, List.set_cons_succ]
                    refine tl_u (i := 18) rfl (by rfl) (by kernel_rfl) (by kernel_rfl) (by kernel_rfl) (fun _ _ _ h => h) (by rfl) hHeld ?_
                    try simp only [Act.put, List.setIfInBounds_toArray, List.set_cons_zero, List.set_cons_succ]
                    refine tl_u (i := 19) rfl (by rfl) (by kernel_rfl) (by kernel_rfl) (by kernel_rfl) (fun _ _ _ h => h) (by rfl) hHeld ?_
                    try simp only [Act.put, List.setIfInBounds_toArray, List.set_cons_zero, List.set_cons_succ]
                    refine tl_u (i := 20) rfl (by rfl) (by kernel_rfl) (by kernel_rfl) (by kernel_rfl) (fun _ _ _ h => h) (by rfl) hHeld ?_
                    try simp only [Act.put, List.setIfInBounds_toArray, List.set_cons_zero, List.set_cons_succ]
                    refine tl_u (i := 21) rfl (by rfl) (by kernel_rfl) (by kernel_rfl) (by kernel_rfl) (fun _ _ _ h => h) (by rfl) hHeld ?_
                    try simp only [Act.put, List.setIfInBounds_toArray, List.set_cons_zero, List.set_cons_succ]
                    refine tl_u (i := 22) rfl (by rfl) (by kernel_rfl) (by kernel_rfl) (by kernel_rfl) (fun _ _ _ h => h) (by rfl) hHeld ?_
                    try simp only [Act.put, List.setIfInBounds_toArray, List.set_cons_zero, List.set_cons_succ]
                    refine tl_u (i := 23) rfl (by rfl) (by kernel_rfl) (by kernel_rfl) (by kernel_rfl) (fun _ _ _ h => h) (by rfl) hHeld ?_
                    try simp only [Act.put, List.setIfInBounds_toArray, List.set_cons_zero, List.set_cons_succ]
                    refine tl_u (i := 24) rfl (by rfl) (by kernel_rfl) (by kernel_rfl) (by kernel_rfl) (fun _ _ _ h => h) (by rfl) hHeld ?_
                    try simp only [Act.put, List.setIfInBounds_toArray, List.set_cons_zero, List.set_cons_succ]
                    refine tl_u (i := 25) rfl (by rfl) (by kernel_rfl) (by kernel_rfl) (by kernel_rfl) (fun _ _ _ h => h) (by rfl) hHeld ?_
                    try simp only [Act.put, List.setIfInBounds_toArray, List.set_cons_zero, List.set_cons_succ]
                    refine tl_p (i := 26) (v := ?_) rfl (by rfl) (by kernel_rfl) (by kernel_rfl) (by kernel_rfl) (fun _ _ _ h => h) (by rfl) hHeld ?_ ?_
                    rotate_left
                    · intro w
                      go_simp
                      try (with_reducible rfl)
                    try simp only [Act.put, List.setIfInBounds_toArray, List.set_cons_zero, List.set_cons_succ]
                    refine tl_p (i := 27) (v := ?_) rfl (by rfl) (by kernel_rfl) (by kernel_rfl) (by kernel_rfl) (fun _ _ _ h => h) (by rfl) hHeld ?_ ?_
                    rotate_left
                    · intro w
                      go_simp
                      try (with_reducible rfl)
                    try simp only [Act.put, List.setIfInBounds_toArray, List.set_cons_zero, List.set_cons_succ]
                    refine tl_p (i := 28) (v := ?_) rfl (by rfl) (by kernel_rfl) (by kernel_rfl) (by kernel_rfl) (fun _ _ _ h => h) (by rfl) hHeld ?_ ?_
                    rotate_left
                    · intro w
                      go_simp
                      try (with_reducible rfl)
                    try simp only [Act.put, List.setIfInBounds_toArray, List.set_cons_zero, List.set_cons_succ]
                    refine tl_p (i := 29) (v := ?_) rfl (by rfl) (by kernel_rfl) (by kernel_rfl) (by kernel_rfl) (fun _ _ _ h => h) (by rfl) hHeld ?_ ?_
                    rotate_left
                    · intro w
                      go_simp
                      try (with_reducible rfl)
                    try simp only [Act.put, List.setIfInBounds_toArray, List.set_cons_zero, List.set_cons_succ]
                    refine till_done (by kernel_rfl) ?_ _
                    clear hHeld
                    go_wp2_with fail
                    go_roundw
                    case rel => exact ⟨m + 1, true, by omega, by go_num, rfl, hnew.out, hS4.out, hX4.out⟩
                    case measure => simp [intOf]; omega
            · have hmk2 : m = k := by omega
              subst hmk2
              have q5 : ¬ (m : Int) < (m : Int) := by omega
              cases fb with
              | false =>
                have hme : met (E.take m) x1 x2 = true := by simpa using hfb.symm
                have hsu2 := hsu.out
                rw [if_pos hme, List.append_nil] at hsu2
                replace hsu2 := Lib.hid hsu2
                replace hS := Lib.hid hS
                replace hX := Lib.hid hX
                clear hfb hme
                go_wp2_with fail
                go_roundw
                case rel => exact ⟨m + 1, by omega, by go_num, by rw [hsu2.out]; exact hS.out⟩
                case measure => simp [intOf]; omega
              | true =>
                have hme : met (E.take m) x1 x2 = false := by simpa using hfb.symm
                have hsu2 := hsu.out
                rw [if_neg (by rw [hme]; decide)] at hsu2
                replace hsu2 := Lib.hid hsu2
                replace hS := Lib.hid hS
                replace hX := Lib.hid hX
                have hat0 : at_ x1 x2 ⟨x0, x1, x2, x3, x4, x5, x6, ⟨x7, x8, x9, x10, x11, x12⟩⟩ = true := by unfold at_; simp [hon.out]
                clear hfb hme hsu
                go_upto_region 16 with fail
                go_loopw [10] (fun j W => ∃ (n : Nat) (z : Ef), m + 1 ≤ n ∧ n ≤ E.length ∧ j = .int .i64 n ∧ lastOf (E.take n) x1 x2 = some z ∧ at_ x1 x2 z = true ∧ RS w (.int .i64 next) (.slice A L.length cap) u5 M W ∧ Whole W q 50 z.cells.toArray) (fun j _ => E.length - (intOf j).toNat)
                case atStart => exact ⟨m + 1, _, Nat.le_refl _, by omega, by go_num, hl0.out, hat0, hS.out, hX.out⟩
                case round =>
                  clear hS hX hat0
                  obtain ⟨n, z, hmn, hnE, rfl, hlz, haz, hS, hX⟩ := hrel
                  obtain ⟨z0, z1, z2', z3, z4, z5, z6, ⟨z7, z8, z9, z10, z11, z12⟩⟩ := z
                  have hz1 : z1 = x1 := by unfold at_ at haz; simp at haz; exact haz.1.2
                  have hz2' : z2' = x2 := by unfold at_ at haz; simp at haz; exact haz.2
                  subst hz1 hz2'
                  unfold Ef.cells at hX
                  simp only at hX
                  by_cases hlt3 : n < E.length
                  · have q4 : (n : Int) < (E.length : Int) := by omega
                    have hml := hlt3
                    obtain ⟨p0, p1, p2, p3, p4, p5, p6, p7, p8, p9, p10, p11, p12⟩ := f.out n hml
                    have hcb := fun {o : Nat} {v : Value} (h : w.cell? ⟨b, o, none⟩ = some v) => (hS.b.cell (p := ⟨b, o, none⟩) hblw).trans h
                    replace p0 := hcb p0; replace p1 := hcb p1; replace p2 := hcb p2; replace p3 := hcb p3; replace p4 := hcb p4; replace p5 := hcb p5; replace p6 := hcb p6; replace p7 := hcb p7; replace p8 := hcb p8; replace p9 := hcb p9; replace p10 := hcb p10; replace p11 := hcb p11; replace p12 := hcb p12
                    have hbl : b < wr.heap.size := Nat.lt_of_lt_of_le hblw hS.b.size
                    clear hcb
                    have hql := hX.lt
                    have s1 := hX.cell 1
                    have s2 := hX.cell 2
                    have hmt := last_take hml z1 z2'
                    generalize E[n] = y at *
                    obtain ⟨y0, y1, y2, y3, y4, y5, y6, ⟨y7, y8, y9, y10, y11, y12⟩⟩ := y
                    simp only at p0 p1 p2 p3 p4 p5 p6 p7 p8 p9 p10 p11 p12
                    have kO := onRow_any wr.drew ⟨y0, y1, y2, y3, y4, y5, y6, ⟨y7, y8, y9, y10, y11, y12⟩⟩
                    replace hS := Lib.hid (hS.below (Below.drew (Below.refl wr.heap.size wr)))
                    replace hX := Lib.hid hX.drew
                    cases hoy : onR ⟨y0, y1, y2, y3, y4, y5, y6, ⟨y7, y8, y9, y10, y11, y12⟩⟩ with
                    | false =>
                      rw [if_neg (by unfold at_; rw [hoy]; simp), hlz] at hmt
                      rw [hoy] at kO
                      replace kO := Lib.hid kO
                      replace hmt := Lib.hid hmt
                      replace haz := Lib.hid haz
                      clear hoy hlz
                      go_upto_region 18 with fail
                      refine tl_begin (fun (w' : World) => (w'.cell? ⟨b, off + n * 13, none⟩ = some (.int .i64 y0) ∧ w'.cell? ⟨b, off + n * 13 + 1, none⟩ = some (.string y1) ∧ w'.cell? ⟨b, off + n * 13 + 2, none⟩ = some (.string y2) ∧ w'.cell? ⟨b, off + n * 13 + 3, none⟩ = some (.string y3) ∧ w'.cell? ⟨b, off + n * 13 + 4, none⟩ = some (.int .i64 y4) ∧ w'.cell? ⟨b, off + n * 13 + 5, none⟩ = some (.int .i64 y5) ∧ w'.cell? ⟨b, off + n * 13 + 6, none⟩ = some (.bool y6) ∧ w'.cell? ⟨b, off + n * 13 + 7, none⟩ = some (.int .i64 y7) ∧ w'.cell? ⟨b, off + n * 13 + 8, none⟩ = some (.int .i64 y8) ∧ w'.cell? ⟨b, off + n * 13 + 9, none⟩ = some (.int .i64 y9) ∧ w'.cell? ⟨b, off + n * 13 + 10, none⟩ = some (.bool y10) ∧ w'.cell? ⟨b, off + n * 13 + 11, none⟩ = some (.string y11) ∧ w'.cell? ⟨b, off + n * 13 + 12, none⟩ = some (.string y12)) ∧ w'.cell? ⟨q, 1, none⟩ = some (.string z1) ∧ w'.cell? ⟨q, 2, none⟩ = some (.string z2')) [] (by kernel_rfl) (⟨⟨p0, p1, p2, p3, p4, p5, p6, p7, p8, p9, p10, p11, p12⟩, s1, s2⟩) (fun hHeld => ?_)
                      refine tl_p (i := 0) (v := ?_) rfl (by rfl) (by kernel_rfl) (by kernel_rfl) (by kernel_rfl) (fun _ _ _ h => h) (by rfl) hHeld ?_ ?_
                      rotate_left
                      · intro w
                        go_simp
                        try (with_reducible rfl)
                      try simp only [Act.put, List.setIfInBounds_toArray, List.set_cons_zero, List.set_cons_succ]
                      refine tl_p (i := 1) (v := ?_) rfl (by rfl) (by kernel_rfl) (by kernel_rfl) (by kernel_rfl) (fun _ _ _ h => h) (by rfl) hHeld ?_ ?_
                      rotate_left
                      · intro w
                        go_simp
                        try (with_reducible rfl)
                      try simp only [Act.put, List.setIfInBounds_toArray, List.set_cons_zero, List.set_cons_succ]
                      refine tl_p (i := 2) (v := ?_) rfl (by rfl) (by kernel_rfl) (by kernel_rfl) (by kernel_rfl) (fun _ _ _ h => h) (by rfl) hHeld ?_ ?_
                      rotate_left
                      · intro w
                        go_simp
                        try (with_reducible rfl)
                      try simp only [Act.put, List.setIfInBounds_toArray, List.set_cons_zero, List.set_cons_succ]
                      refine tl_w (i := 3) (v := ?_) rfl (by rfl) (by kernel_rfl) (by kernel_rfl) (by kernel_rfl) (by kernel_rfl) (by kernel_rfl) (fun _ _ _ h => h) (by rfl) hHeld ?_ ?_
                      rotate_left
                      · intro w hSw
                        try dsimp only at hSw
                        go_simp
                        try (with_reducible rfl)
                      try simp only [Act.put, List.setIfInBounds_toArray, List.set_cons_zero, List.set_cons_succ]
                      refine tl_do (i := 4) rfl (by kernel_rfl) (by rfl) (fun K hK => ?_)
                      go_simp
                      go_at_call 75
                      refine kO.out.mono ?_; rintro e w4 ⟨rfl, hb4⟩
                      have hc := fun {o : Nat} {v : Value} (h : wr.drew.cell? ⟨b, o, none⟩ = some v) => (hb4.cell (p := ⟨b, o, none⟩) hbl).trans h
                      have hq4 := fun {o : Nat} {v : Value} (h : wr.drew.cell? ⟨q, o, none⟩ = some v) => (hb4.cell (p := ⟨q, o, none⟩) hql).trans h
                      have hcN := And.intro (And.intro (hc p0) (And.intro (hc p1) (And.intro (hc p2) (And.intro (hc p3) (And.intro (hc p4) (And.intro (hc p5) (And.intro (hc p6) (And.intro (hc p7) (And.intro (hc p8) (And.intro (hc p9) (And.intro (hc p10) (And.intro (hc p11) (hc p12))))))))))))) (And.intro (hq4 s1) (hq4 s2))
                      clear hc hq4
                      have hS4 := Lib.hid (hS.out.below hb4)
                      have hX4 := Lib.hid (hX.out.below hb4)
                      clear hb4
                      try go_wp2_with fail
                      refine hK.out _ _ (hcN) (fun hHeld1 => ?_)
                      clear hK K hHeld
                      have hHeld := hHeld1
                      clear hHeld1
                      try simp only [Act.put, List.setIfInBounds_toArray, List.set_cons_zero, List.set_cons_succ]
                      refine tl_p (i := 5) (v := ?_) rfl (by rfl) (by kernel_rfl) (by kernel_rfl) (by kernel_rfl) (fun _ _ _ h => h) (by rfl) hHeld ?_ ?_
                      rotate_left
                      · intro w
                        go_simp
                        try (with_reducible rfl)
                      try simp only [Act.put, List.setIfInBounds_toArray, List.set_cons_zero, List.set_cons_succ]
                      refine tl_u (i := 6) rfl (by rfl) (by kernel_rfl) (by kernel_rfl) (by kernel_rfl) (fun _ _ _ h => h) (by rfl) hHeld ?_
                      try simp only [Act.put, List.setIfInBounds_toArray, List.set_cons_zero, List.set_cons_succ]
                      refine tl_u (i := 7) rfl (by rfl) (by kernel_rfl) (by kernel_rfl) (by kernel_rfl) (fun _ _ _ h => h) (by rfl) hHeld ?_
                      try simp only [Act.put, List.setIfInBounds_toArray, List.set_cons_zero, List.set_cons_succ]
                      refine tl_u (i := 8) rfl (by rfl) (by kernel_rfl) (by kernel_rfl) (by kernel_rfl) (fun _ _ _ h => h) (by rfl) hHeld ?_
                      try simp only [Act.put, List.setIfInBounds_toArray, List.set_cons_zero, List.set_cons_succ]
                      refine tl_u (i := 9) rfl (by rfl) (by kernel_rfl) (by kernel_rfl) (by kernel_rfl) (fun _ _ _ h => h) (by rfl) hHeld ?_
                      try simp only [Act.put, List.setIfInBounds_toArray, List.set_cons_zero, List.set_cons_succ]
                      refine tl_u (i := 10) rfl (by rfl) (by kernel_rfl) (by kernel_rfl) (by kernel_rfl) (fun _ _ _ h => h) (by rfl) hHeld ?_
                      try simp only [Act.put, List.setIfInBounds_toArray, List.set_cons_zero, List.set_cons_succ]
                      refine tl_u (i := 11) rfl (by rfl) (by kernel_rfl) (by kernel_rfl) (by kernel_rfl) (fun _ _ _ h => h) (by rfl) hHeld ?_
                      try simp only [Act.put, List.setIfInBounds_toArray, List.set_cons_zero, List.set_cons_succ]
                      refine tl_u (i := 12) rfl (by rfl) (by kernel_rfl) (by kernel_rfl) (by kernel_rfl) (fun _ _ _ h => h) (by rfl) hHeld ?_
                      try simp only [Act.put, List.setIfInBounds_toArray, List.set_cons_zero, List.set_cons_succ]
                      refine tl_u (i := 13) rfl (by rfl) (by kernel_rfl) (by kernel_rfl) (by kernel_rfl) (fun _ _ _ h => h) (by rfl) hHeld ?_
                      try simp only [Act.put, List.setIfInBounds_toArray, List.set_cons_zero, List.set_cons_succ]
                      refine tl_p (i := 14) (v := ?_) rfl (by rfl) (by kernel_rfl) (by kernel_rfl) (by kernel_rfl) (fun _ _ _ h => h) (by rfl) hHeld ?_ ?_
                      rotate_left
                      · intro w
                        go_simp
                        try (with_reducible rfl)
                      try simp only [Act.put, List.setIfInBounds_toArray, List.set_cons_zero, List.set_cons_succ]
                      refine tl_p (i := 15) (v := ?_) rfl (by rfl) (by kernel_rfl) (by kernel_rfl) (by kernel_rfl) (fun _ _ _ h => h) (by rfl) hHeld ?_ ?_
                      rotate_left
                      · intro w
                        go_simp
                        try (with_reducible rfl)
                      try simp only [Act.put, List.setIfInBounds_toArray, List.set_cons_zero, List.set_cons_succ]
                      refine tl_u (i := 16) rfl (by rfl) (by kernel_rfl) (by kernel_rfl) (by kernel_rfl) (fun _ _ _ h => h) (by rfl) hHeld ?_
                      try simp only [Act.put, List.setIfInBounds_toArray, List.set_cons_zero, List.set_cons_succ]
                      refine tl_u (i := 17) rfl (by rfl) (by kernel_rfl) (by kernel_rfl) (by kernel_rfl) (fun _ _ _ h => h) (by rfl) hHeld ?_
                      try simp only [Act.put, List.setIfInBounds_toArray, List.set_cons_zero, List.set_cons_succ]
                      refine tl_u (i := 18) rfl (by rfl) (by kernel_rfl) (by kernel_rfl) (by kernel_rfl) (fun _ _ _ h => h) (by rfl) hHeld ?_
                      try simp only [Act.put, List.setIfInBounds_toArray, List.set_cons_zero, List.set_cons_succ]
                      refine tl_u (i := 19) rfl (by rfl) (by kernel_rfl) (by kernel_rfl) (by kernel_rfl) (fun _ _ _ h => h) (by rfl) hHeld ?_
                      try simp only [Act.put, List.setIfInBounds_toArray, List.set_cons_zero, List.set_cons_succ]
                      refine tl_u (i := 20) rfl (by rfl) (by kernel_rfl) (by kernel_rfl) (by kernel_rfl) (fun _ _ _ h => h) (by rfl) hHeld ?_
                      try simp only [Act.put, List.setIfInBounds_toArray, List.set_cons_zero, List.set_cons_succ]
                      refine tl_u (i := 21) rfl (by rfl) (by kernel_rfl) (by kernel_rfl) (by kernel_rfl) (fun _ _ _ h => h) (by rfl) hHeld ?_
                      try simp only [Act.put, List.setIfInBounds_toArray, List.set_cons_zero, List.set_cons_succ]
                      refine tl_u (i := 22) rfl (by rfl) (by kernel_rfl) (by kernel_rfl) (by kernel_rfl) (fun _ _ _ h => h) (by rfl) hHeld ?_
                      try simp only [Act.put, List.setIfInBounds_toArray, List.set_cons_zero, List.set_cons_succ]
                      refine tl_u (i := 23) rfl (by rfl) (by kernel_rfl) (by kernel_rfl) (by kernel_rfl) (fun _ _ _ h => h) (by rfl) hHeld ?_
                      try simp only [Act.put, List.setIfInBounds_toArray, List.set_cons_zero, List.set_cons_succ]
                      refine tl_p (i := 24) (v := ?_) rfl (by rfl) (by kernel_rfl) (by kernel_rfl) (by kernel_rfl) (fun _ _ _ h => h) (by rfl) hHeld ?_ ?_
                      rotate_left
                      · intro w
                        go_simp
                        try (with_reducible rfl)
                      try simp only [Act.put, List.setIfInBounds_toArray, List.set_cons_zero, List.set_cons_succ]
                      refine till_done (by kernel_rfl) ?_ _
                      clear hHeld
                      go_wp2_with fail
                      go_roundw
                      case rel => exact ⟨n + 1, _, by omega, by omega, by go_num, hmt.out, haz.out, hS4.out, hX4.out⟩
                      case measure => simp [intOf]; omega
                    | true =>
                      rw [hoy] at kO
                      replace kO := Lib.hid kO
                      by_cases hy1 : y1 = z1
                      · have hy1' : (y1.toList == z1.toList) = true := by rw [hy1]; exact beq_self_eq_true _
                        by_cases hy2 : y2 = z2'
                        · have hy2' : (y2.toList == z2'.toList) = true := by rw [hy2]; exact beq_self_eq_true _
                          have hay : at_ z1 z2' ⟨y0, y1, y2, y3, y4, y5, y6, ⟨y7, y8, y9, y10, y11, y12⟩⟩ = true := by unfold at_; rw [hoy]; simp [hy1, hy2]
                          rw [if_pos hay] at hmt
                          replace hmt := Lib.hid hmt
                          replace hay := Lib.hid hay
                          replace haz := Lib.hid haz
                          clear hoy hlz hy1 hy2
                          go_upto_region 18 with fail
                          refine tl_begin (fun (w' : World) => (w'.cell? ⟨b, off + n * 13, none⟩ = some (.int .i64 y0) ∧ w'.cell? ⟨b, off + n * 13 + 1, none⟩ = some (.string y1) ∧ w'.cell? ⟨b, off + n * 13 + 2, none⟩ = some (.string y2) ∧ w'.cell? ⟨b, off + n * 13 + 3, none⟩ = some (.string y3) ∧ w'.cell? ⟨b, off + n * 13 + 4, none⟩ = some (.int .i64 y4) ∧ w'.cell? ⟨b, off + n * 13 + 5, none⟩ = some (.int .i64 y5) ∧ w'.cell? ⟨b, off + n * 13 + 6, none⟩ = some (.bool y6) ∧ w'.cell? ⟨b, off + n * 13 + 7, none⟩ = some (.int .i64 y7) ∧ w'.cell? ⟨b, off + n * 13 + 8, none⟩ = some (.int .i64 y8) ∧ w'.cell? ⟨b, off + n * 13 + 9, none⟩ = some (.int .i64 y9) ∧ w'.cell? ⟨b, off + n * 13 + 10, none⟩ = some (.bool y10) ∧ w'.cell? ⟨b, off + n * 13 + 11, none⟩ = some (.string y11) ∧ w'.cell? ⟨b, off + n * 13 + 12, none⟩ = some (.string y12)) ∧ w'.cell? ⟨q, 1, none⟩ = some (.string z1) ∧ w'.cell? ⟨q, 2, none⟩ = some (.string z2')) [] (by kernel_rfl) (⟨⟨p0, p1, p2, p3, p4, p5, p6, p7, p8, p9, p10, p11, p12⟩, s1, s2⟩) (fun hHeld => ?_)
                          refine tl_p (i := 0) (v := ?_) rfl (by rfl) (by kernel_rfl) (by kernel_rfl) (by kernel_rfl) (fun _ _ _ h => h) (by rfl) hHeld ?_ ?_
                          rotate_left
                          · intro w
                            go_simp
                            try (with_reducible rfl)
                          try simp only [Act.put, List.setIfInBounds_toArray, List.set_cons_zero, List.set_cons_succ]
                          refine tl_p (i := 1) (v := ?_) rfl (by rfl) (by kernel_rfl) (by kernel_rfl) (by kernel_rfl) (fun _ _ _ h => h) (by rfl) hHeld ?_ ?_
                          rotate_left
                          · intro w
                            go_simp
                            try (with_reducible rfl)
                          try simp only [Act.put, List.setIfInBounds_toArray, List.set_cons_zero, List.set_cons_succ]
                          refine tl_p (i := 2) (v := ?_) rfl (by rfl) (by kernel_rfl) (by kernel_rfl) (by kernel_rfl) (fun _ _ _ h => h) (by rfl) hHeld ?_ ?_
                          rotate_left
                          · intro w
                            go_simp
                            try (with_reducible rfl)
                          try simp only [Act.put, List.setIfInBounds_toArray, List.set_cons_zero, List.set_cons_succ]
                          refine tl_w (i := 3) (v := ?_) rfl (by rfl) (by kernel_rfl) (by kernel_rfl) (by kernel_rfl) (by kernel_rfl) (by kernel_rfl) (fun _ _ _ h => h) (by rfl) hHeld ?_ ?_
                          rotate_left
                          · intro w hSw
                            try dsimp only at hSw
                            go_simp
                            try (with_reducible rfl)
                          try simp only [Act.put, List.setIfInBounds_toArray, List.set_cons_zero, List.set_cons_succ]
                          refine tl_do (i := 4) rfl (by kernel_rfl) (by rfl) (fun K hK => ?_)
                          go_simp
                          go_at_call 75
                          refine kO.out.mono ?_; rintro e w4 ⟨rfl, hb4⟩
                          have hc := fun {o : Nat} {v : Value} (h : wr.drew.cell? ⟨b, o, none⟩ = some v) => (hb4.cell (p := ⟨b, o, none⟩) hbl).trans h
                          have hq4 := fun {o : Nat} {v : Value} (h : wr.drew.cell? ⟨q, o, none⟩ = some v) => (hb4.cell (p := ⟨q, o, none⟩) hql).trans h
                          have hcN := And.intro (And.intro (hc p0) (And.intro (hc p1) (And.intro (hc p2) (And.intro (hc p3) (And.intro (hc p4) (And.intro (hc p5) (And.intro (hc p6) (And.intro (hc p7) (And.intro (hc p8) (And.intro (hc p9) (And.intro (hc p10) (And.intro (hc p11) (hc p12))))))))))))) (And.intro (hq4 s1) (hq4 s2))
                          clear hc hq4
                          have hS4 := Lib.hid (hS.out.below hb4)
                          have hX4 := Lib.hid (hX.out.below hb4)
                          clear hb4
                          try go_wp2_with fail
                          refine hK.out _ _ (hcN) (fun hHeld1 => ?_)
                          clear hK K hHeld
                          have hHeld := hHeld1
                          clear hHeld1
                          try simp only [Act.put, List.setIfInBounds_toArray, List.set_cons_zero, List.set_cons_succ]
                          refine tl_p (i := 5) (v := ?_) rfl (by rfl) (by kernel_rfl) (by kernel_rfl) (by kernel_rfl) (fun _ _ _ h => h) (by rfl) hHeld ?_ ?_
                          rotate_left
                          · intro w
                            go_simp
                            try (with_reducible rfl)
                          try simp only [Act.put, List.setIfInBounds_toArray, List.set_cons_zero, List.set_cons_succ]
                          refine tl_p (i := 6) (v := ?_) rfl (by rfl) (by kernel_rfl) (by kernel_rfl) (by kernel_rfl) (fun _ _ _ h => h) (by rfl) hHeld ?_ ?_
                          rotate_left
                          · intro w
                            go_simp
                            try (with_reducible rfl)
                          try simp only [Act.put, List.setIfInBounds_toArray, List.set_cons_zero, List.set_cons_succ]
                          refine tl_p (i := 7) (v := ?_) rfl (by rfl) (by kernel_rfl) (by kernel_rfl) (by kernel_rfl) (fun _ _ _ h => h) (by rfl) hHeld ?_ ?_
                          rotate_left
                          · intro w
                            go_simp
                            try (with_reducible rfl)
                          try simp only [Act.put, List.setIfInBounds_toArray, List.set_cons_zero, List.set_cons_succ]
                          refine tl_p (i := 8) (v := ?_) rfl (by rfl) (by kernel_rfl) (by kernel_rfl) (by kernel_rfl) (fun _ _ _ h => h) (by rfl) hHeld ?_ ?_
                          rotate_left
                          · intro w
                            go_simp
                            try (with_reducible rfl)
                          try simp only [Act.put, List.setIfInBounds_toArray, List.set_cons_zero, List.set_cons_succ]
                          refine tl_p (i := 9) (v := ?_) rfl (by rfl) (by kernel_rfl) (by kernel_rfl) (by kernel_rfl) (fun _ _ _ h => h) (by rfl) hHeld ?_ ?_
                          rotate_left
                          · intro w
                            go_simp
                            try (with_reducible rfl)
                          try simp only [Act.put, List.setIfInBounds_toArray, List.set_cons_zero, List.set_cons_succ]
                          refine tl_w (i := 10) (v := ?_) rfl (by rfl) (by kernel_rfl) (by kernel_rfl) (by kernel_rfl) (by kernel_rfl) (by kernel_rfl) (fun _ _ _ h => h) (by rfl) hHeld ?_ ?_
                          rotate_left
                          · intro w hSw
                            try dsimp only at hSw
                            go_simp
                            try (with_reducible rfl)
                          try simp only [Act.put, List.setIfInBounds_toArray, List.set_cons_zero, List.set_cons_succ]
                          refine tl_p (i := 11) (v := ?_) rfl (by rfl) (by kernel_rfl) (by kernel_rfl) (by kernel_rfl) (fun _ _ _ h => h) (by rfl) hHeld ?_ ?_
                          rotate_left
                          · intro w
                            go_simp
                            try (with_reducible rfl)
                          try simp only [Act.put, List.setIfInBounds_toArray, List.set_cons_zero, List.set_cons_succ]
                          refine tl_w (i := 12) (v := ?_) rfl (by rfl) (by kernel_rfl) (by kernel_rfl) (by kernel_rfl) (by kernel_rfl) (by kernel_rfl) (fun _ _ _ h => h) (by rfl) hHeld ?_ ?_
                          rotate_left
                          · intro w hSw
                            try dsimp only at hSw
                            go_simp
                            try (with_reducible rfl)
                          try simp only [Act.put, List.setIfInBounds_toArray, List.set_cons_zero, List.set_cons_succ]
                          refine tl_p (i := 13) (v := ?_) rfl (by rfl) (by kernel_rfl) (by kernel_rfl) (by kernel_rfl) (fun _ _ _ h => h) (by rfl) hHeld ?_ ?_
                          rotate_left
                          · intro w
                            go_simp
                            try (with_reducible rfl)
                          try simp only [Act.put, List.setIfInBounds_toArray, List.set_cons_zero, List.set_cons_succ]
                          refine tl_p (i := 14) (v := ?_) rfl (by rfl) (by kernel_rfl) (by kernel_rfl) (by kernel_rfl) (fun _ _ _ h => h) (by rfl) hHeld ?_ ?_
                          rotate_left
                          · intro w
                            go_simp
                            try (with_reducible rfl)
                          try simp only [Act.put, List.setIfInBounds_toArray, List.set_cons_zero, List.set_cons_succ]
                          refine tl_p (i := 15) (v := ?_) rfl (by rfl) (by kernel_rfl) (by kernel_rfl) (by kernel_rfl) (fun _ _ _ h => h) (by rfl) hHeld ?_ ?_
                          rotate_left
                          · intro w
                            go_simp
                            try (with_reducible rfl)
                          try simp only [Act.put, List.setIfInBounds_toArray, List.set_cons_zero, List.set_cons_succ]
                          refine tl_p (i := 16) (v := ?_) rfl (by rfl) (by kernel_rfl) (by kernel_rfl) (by kernel_rfl) (fun _ _ _ h => h) (by rfl) hHeld ?_ ?_
                          rotate_left
                          · intro w
                            go_simp
                            try (with_reducible rfl)
                          try simp only [Act.put, List.setIfInBounds_toArray, List.set_cons_zero, List.set_cons_succ]
                          refine tl_p (i := 17) (v := ?_) rfl (by rfl) (by kernel_rfl) (by kernel_rfl) (by kernel_rfl) (fun _ _ _ h => h) (by rfl) hHeld ?_ ?_
                          rotate_left
                          · intro w
                            go_simp
                            try (with_reducible rfl)
                          try simp only [Act.put, List.setIfInBounds_toArray, List.set_cons_zero, List.set_cons_succ]
                          refine tl_p (i := 18) (v := ?_) rfl (by rfl) (by kernel_rfl) (by kernel_rfl) (by kernel_rfl) (fun _ _ _ h => h) (by rfl) hHeld ?_ ?_
                          rotate_left
                          · intro w
                            go_simp
                            try (with_reducible rfl)
                          try simp only [Act.put, List.setIfInBounds_toArray, List.set_cons_zero, List.set_cons_succ]
                          refine tl_p (i := 19) (v := ?_) rfl (by rfl) (by kernel_rfl) (by kernel_rfl) (by kernel_rfl) (fun _ _ _ h => h) (by rfl) hHeld ?_ ?_
                          rotate_left
                          · intro w
                            go_simp
                            try (with_reducible rfl)
                          try simp only [Act.put, List.setIfInBounds_toArray, List.set_cons_zero, List.set_cons_succ]
                          refine tl_w (i := 20) (v := ?_) rfl (by rfl) (by kernel_rfl) (by kernel_rfl) (by kernel_rfl) (by kernel_rfl) (by kernel_rfl) (fun _ _ _ h => h) (by rfl) hHeld ?_ ?_
                          rotate_left
                          · intro w hSw
                            try dsimp only at hSw
                            go_simp
                            try (with_reducible rfl)
                          try simp only [Act.put, List.setIfInBounds_toArray, List.set_cons_zero, List.set_cons_succ]
                          refine tl_p (i := 21) (v := ?_) rfl (by rfl) (by kernel_rfl) (by kernel_rfl) (by kernel_rfl) (fun _ _ _ h => h) (by rfl) hHeld ?_ ?_
                          rotate_left
                          · intro w
                            go_simp
                            try (with_reducible rfl)
                          try simp only [Act.put, List.setIfInBounds_toArray, List.set_cons_zero, List.set_cons_succ]
                          refine tl_w (i := 22) (v := ?_) rfl (by rfl) (by kernel_rfl) (by kernel_rfl) (by kernel_rfl) (by kernel_rfl) (by kernel_rfl) (fun _ _ _ h => h) (by rfl) hHeld ?_ ?_
                          rotate_left
                          · intro w hSw
                            try dsimp only at hSw
                            go_simp
                            try (with_reducible rfl)
                          try simp only [Act.put, List.setIfInBounds_toArray, List.set_cons_zero, List.set_cons_succ]
                          refine tl_p (i := 23) (v := ?_) rfl (by rfl) (by kernel_rfl) (by kernel_rfl) (by kernel_rfl) (fun _ _ _ h => h) (by rfl) hHeld ?_ ?_
                          rotate_left
                          · intro w
                            go_simp
                            try (with_reducible rfl)
                          try simp only [Act.put, List.setIfInBounds_toArray, List.set_cons_zero, List.set_cons_succ]
                          refine tl_p (i := 24) (v := ?_) rfl (by rfl) (by kernel_rfl) (by kernel_rfl) (by kernel_rfl) (fun _ _ _ h => h) (by rfl) hHeld ?_ ?_
                          rotate_left
                          · intro w
                            go_simp
                            try (with_reducible rfl)
                          try simp only [Act.put, List.setIfInBounds_toArray, List.set_cons_zero, List.set_cons_succ]
                          refine till_done (by kernel_rfl) ?_ _
                          obtain ⟨⟨p0, p1, p2, p3, p4, p5, p6, p7, p8, p9, p10, p11, p12⟩, s1, s2⟩ := hHeld
                          have c0 := hX4.out.cell 0
                          have c3 := hX4.out.cell 3
                          have c4 := hX4.out.cell 4
                          have c5 := hX4.out.cell 5
                          have c6 := hX4.out.cell 6
                          have c7 := hX4.out.cell 7
                          have c8 := hX4.out.cell 8
                          have c9 := hX4.out.cell 9
                          have c10 := hX4.out.cell 10
                          have c11 := hX4.out.cell 11
                          have c12 := hX4.out.cell 12
                          have f0 := hX4.out.frozen 0
                          have f1 := hX4.out.frozen 1
                          have f2 := hX4.out.frozen 2
                          have f3 := hX4.out.frozen 3
                          have f4 := hX4.out.frozen 4
                          have f5 := hX4.out.frozen 5
                          have f6 := hX4.out.frozen 6
                          have f7 := hX4.out.frozen 7
                          have f8 := hX4.out.frozen 8
                          have f9 := hX4.out.frozen 9
                          have f10 := hX4.out.frozen 10
                          have f11 := hX4.out.frozen 11
                          have f12 := hX4.out.frozen 12
                          have hl4 := hX4.out.lt
                          have hX5 := Lib.hid (set13 hX4.out (.int .i64 y0) (.string y1) (.string y2) (.string y3) (.int .i64 y4) (.int .i64 y5) (.bool y6) (.int .i64 y7) (.int .i64 y8) (.int .i64 y9) (.bool y10) (.string y11) (.string y12))
                          have hS5 := Lib.hid (hS4.out.upd (upd13 w4 q (.int .i64 y0) (.string y1) (.string y2) (.string y3) (.int .i64 y4) (.int .i64 y5) (.bool y6) (.int .i64 y7) (.int .i64 y8) (.int .i64 y9) (.bool y10) (.string y11) (.string y12)) (fun b hb => by
                            subst hb
                            exact ⟨hpq, fun e => by have := huq.out _ e; omega⟩))
                          go_wp2_with fail
                          go_roundw
                          case rel => exact ⟨n + 1, _, by omega, by omega, by go_num, hmt.out, hay.out, hS5.out, hX5.out⟩
                          case measure => simp [intOf]; omega
                        · have hy2' := str_ne hy2
                          rw [if_neg (by unfold at_; rw [hoy]; simp [hy2]), hlz] at hmt
                          replace hmt := Lib.hid hmt
                          replace haz := Lib.hid haz
                          clear hoy hlz hy1 hy2
                          go_upto_region 18 with fail
                          refine tl_begin (fun (w' : World) => (w'.cell? ⟨b, off + n * 13, none⟩ = some (.int .i64 y0) ∧ w'.cell? ⟨b, off + n * 13 + 1, none⟩ = some (.string y1) ∧ w'.cell? ⟨b, off + n * 13 + 2, none⟩ = some (.string y2) ∧ w'.cell? ⟨b, off + n * 13 + 3, none⟩ = some (.string y3) ∧ w'.cell? ⟨b, off + n * 13 + 4, none⟩ = some (.int .i64 y4) ∧ w'.cell? ⟨b, off + n * 13 + 5, none⟩ = some (.int .i64 y5) ∧ w'.cell? ⟨b, off + n * 13 + 6, none⟩ = some (.bool y6) ∧ w'.cell? ⟨b, off + n * 13 + 7, none⟩ = some (.int .i64 y7) ∧ w'.cell? ⟨b, off + n * 13 + 8, none⟩ = some (.int .i64 y8) ∧ w'.cell? ⟨b, off + n * 13 + 9, none⟩ = some (.int .i64 y9) ∧ w'.cell? ⟨b, off + n * 13 + 10, none⟩ = some (.bool y10) ∧ w'.cell? ⟨b, off + n * 13 + 11, none⟩ = some (.string y11) ∧ w'.cell? ⟨b, off + n * 13 + 12, none⟩ = some (.string y12)) ∧ w'.cell? ⟨q, 1, none⟩ = some (.string z1) ∧ w'.cell? ⟨q, 2, none⟩ = some (.string z2')) [] (by kernel_rfl) (⟨⟨p0, p1, p2, p3, p4, p5, p6, p7, p8, p9, p10, p11, p12⟩, s1, s2⟩) (fun hHeld => ?_)
                          refine tl_p (i := 0) (v := ?_) rfl (by rfl) (by kernel_rfl) (by kernel_rfl) (by kernel_rfl) (fun _ _ _ h => h) (by rfl) hHeld ?_ ?_
                          rotate_left
                          · intro w
                            go_simp
                            try (with_reducible rfl)
                          try simp only [Act.put, List.setIfInBounds_toArray, List.set_cons_zero, List.set_cons_succ]
                          refine tl_p (i := 1) (v := ?_) rfl (by rfl) (by kernel_rfl) (by kernel_rfl) (by kernel_rfl) (fun _ _ _ h => h) (by rfl) hHeld ?_ ?_
                          rotate_left
                          · intro w
                            go_simp
                            try (with_reducible rfl)
                          try simp only [Act.put, List.setIfInBounds_toArray, List.set_cons_zero, List.set_cons_succ]
                          refine tl_p (i := 2) (v := ?_) rfl (by rfl) (by kernel_rfl) (by kernel_rfl) (by kernel_rfl) (fun _ _ _ h => h) (by rfl) hHeld ?_ ?_
                          rotate_left
                          · intro w
                            go_simp
                            try (with_reducible rfl)
                          try simp only [Act.put, List.setIfInBounds_toArray, List.set_cons_zero, List.set_cons_succ]
                          refine tl_w (i := 3) (v := ?_) rfl (by rfl) (by kernel_rfl) (by kernel_rfl) (by kernel_rfl) (by kernel_rfl) (by kernel_rfl) (fun _ _ _ h => h) (by rfl) hHeld ?_ ?_
                          rotate_left
                          · intro w hSw
                            try dsimp only at hSw
                            go_simp
                            try (with_reducible rfl)
                          try simp only [Act.put, List.setIfInBounds_toArray, List.set_cons_zero, List.set_cons_succ]
                          refine tl_do (i := 4) rfl (by kernel_rfl) (by rfl) (fun K hK => ?_)
                          go_simp
                          go_at_call 75
                          refine kO.out.mono ?_; rintro e w4 ⟨rfl, hb4⟩
                          have hc := fun {o : Nat} {v : Value} (h : wr.drew.cell? ⟨b, o, none⟩ = some v) => (hb4.cell (p := ⟨b, o, none⟩) hbl).trans h
                          have hq4 := fun {o : Nat} {v : Value} (h : wr.drew.cell? ⟨q, o, none⟩ = some v) => (hb4.cell (p := ⟨q, o, none⟩) hql).trans h
                          have hcN := And.intro (And.intro (hc p0) (And.intro (hc p1) (And.intro (hc p2) (And.intro (hc p3) (And.intro (hc p4) (And.intro (hc p5) (And.intro (hc p6) (And.intro (hc p7) (And.intro (hc p8) (And.intro (hc p9) (And.intro (hc p10) (And.intro (hc p11) (hc p12))))))))))))) (And.intro (hq4 s1) (hq4 s2))
                          clear hc hq4
                          have hS4 := Lib.hid (hS.out.below hb4)
                          have hX4 := Lib.hid (hX.out.below hb4)
                          clear hb4
                          try go_wp2_with fail
                          refine hK.out _ _ (hcN) (fun hHeld1 => ?_)
                          clear hK K hHeld
                          have hHeld := hHeld1
                          clear hHeld1
                          try simp only [Act.put, List.setIfInBounds_toArray, List.set_cons_zero, List.set_cons_succ]
                          refine tl_p (i := 5) (v := ?_) rfl (by rfl) (by kernel_rfl) (by kernel_rfl) (by kernel_rfl) (fun _ _ _ h => h) (by rfl) hHeld ?_ ?_
                          rotate_left
                          · intro w
                            go_simp
                            try (with_reducible rfl)
                          try simp only [Act.put, List.setIfInBounds_toArray, List.set_cons_zero, List.set_cons_succ]
                          refine tl_p (i := 6) (v := ?_) rfl (by rfl) (by kernel_rfl) (by kernel_rfl) (by kernel_rfl) (fun _ _ _ h => h) (by rfl) hHeld ?_ ?_
                          rotate_left
                          · intro w
                            go_simp
                            try (with_reducible rfl)
                          try simp only [Act.put, List.setIfInBounds_toArray, List.set_cons_zero, List.set_cons_succ]
                          refine tl_p (i := 7) (v := ?_) rfl (by rfl) (by kernel_rfl) (by kernel_rfl) (by kernel_rfl) (fun _ _ _ h => h) (by rfl) hHeld ?_ ?_
                          rotate_left
                          · intro w
                            go_simp
                            try (with_reducible rfl)
                          try simp only [Act.put, List.setIfInBounds_toArray, List.set_cons_zero, List.set_cons_succ]
                          refine tl_p (i := 8) (v := ?_) rfl (by rfl) (by kernel_rfl) (by kernel_rfl) (by kernel_rfl) (fun _ _ _ h => h) (by rfl) hHeld ?_ ?_
                          rotate_left
                          · intro w
                            go_simp
                            try (with_reducible rfl)
                          try simp only [Act.put, List.setIfInBounds_toArray, List.set_cons_zero, List.set_cons_succ]
                          refine tl_p (i := 9) (v := ?_) rfl (by rfl) (by kernel_rfl) (by kernel_rfl) (by kernel_rfl) (fun _ _ _ h => h) (by rfl) hHeld ?_ ?_
                          rotate_left
                          · intro w
                            go_simp
                            try (with_reducible rfl)
                          try simp only [Act.put, List.setIfInBounds_toArray, List.set_cons_zero, List.set_cons_succ]
                          refine tl_w (i := 10) (v := ?_) rfl (by rfl) (by kernel_rfl) (by kernel_rfl) (by kernel_rfl) (by kernel_rfl) (by kernel_rfl) (fun _ _ _ h => h) (by rfl) hHeld ?_ ?_
                          rotate_left
                          · intro w hSw
                            try dsimp only at hSw
                            go_simp
                            try (with_reducible rfl)
                          try simp only [Act.put, List.setIfInBounds_toArray, List.set_cons_zero, List.set_cons_succ]
                          refine tl_p (i := 11) (v := ?_) rfl (by rfl) (by kernel_rfl) (by kernel_rfl) (by kernel_rfl) (fun _ _ _ h => h) (by rfl) hHeld ?_ ?_
                          rotate_left
                          · intro w
                            go_simp
                            try (with_reducible rfl)
                          try simp only [Act.put, List.setIfInBounds_toArray, List.set_cons_zero, List.set_cons_succ]
                          refine tl_w (i := 12) (v := ?_) rfl (by rfl) (by kernel_rfl) (by kernel_rfl) (by kernel_rfl) (by kernel_rfl) (by kernel_rfl) (fun _ _ _ h => h) (by rfl) hHeld ?_ ?_
                          rotate_left
                          · intro w hSw
                            try dsimp only at hSw
                            go_simp
                            try (with_reducible rfl)
                          try simp only [Act.put, List.setIfInBounds_toArray, List.set_cons_zero, List.set_cons_succ]
                          refine tl_p (i := 13) (v := ?_) rfl (by rfl) (by kernel_rfl) (by kernel_rfl) (by kernel_rfl) (fun _ _ _ h => h) (by rfl) hHeld ?_ ?_
                          rotate_left
                          · intro w
                            go_simp
                            try (with_reducible rfl)
                          try simp only [Act.put, List.setIfInBounds_toArray, List.set_cons_zero, List.set_cons_succ]
                          refine tl_p (i := 14) (v := ?_) rfl (by rfl) (by kernel_rfl) (by kernel_rfl) (by kernel_rfl) (fun _ _ _ h => h) (by rfl) hHeld ?_ ?_
                          rotate_left
                          · intro w
                            go_simp
                            try (with_reducible rfl)
                          try simp only [Act.put, List.setIfInBounds_toArray, List.set_cons_zero, List.set_cons_succ]
                          refine tl_p (i := 15) (v := ?_) rfl (by rfl) (by kernel_rfl) (by kernel_rfl) (by kernel_rfl) (fun _ _ _ h => h) (by rfl) hHeld ?_ ?_
                          rotate_left
                          · intro w
                            go_simp
                            try (with_reducible rfl)
                          try simp only [Act.put, List.setIfInBounds_toArray, List.set_cons_zero, List.set_cons_succ]
                          refine tl_p (i := 16) (v := ?_) rfl (by rfl) (by kernel_rfl) (by kernel_rfl) (by kernel_rfl) (fun _ _ _ h => h) (by rfl) hHeld ?_ ?_
                          rotate_left
                          · intro w
                            go_simp
                            try (with_reducible rfl)
                          try simp only [Act.put, List.setIfInBounds_toArray, List.set_cons_zero, List.set_cons_succ]
                          refine tl_p (i := 17) (v := ?_) rfl (by rfl) (by kernel_rfl) (by kernel_rfl) (by kernel_rfl) (fun _ _ _ h => h) (by rfl) hHeld ?_ ?_
                          rotate_left
                          · intro w
                            go_simp
                            try (with_reducible rfl)
                          try simp only [Act.put, List.setIfInBounds_toArray, List.set_cons_zero, List.set_cons_succ]
                          refine tl_p (i := 18) (v := ?_) rfl (by rfl) (by kernel_rfl) (by kernel_rfl) (by kernel_rfl) (fun _ _ _ h => h) (by rfl) hHeld ?_ ?_
                          rotate_left
                          · intro w
                            go_simp
                            try (with_reducible rfl)
                          try simp only [Act.put, List.setIfInBounds_toArray, List.set_cons_zero, List.set_cons_succ]
                          refine tl_p (i := 19) (v := ?_) rfl (by rfl) (by kernel_rfl) (by kernel_rfl) (by kernel_rfl) (fun _ _ _ h => h) (by rfl) hHeld ?_ ?_
                          rotate_left
                          · intro w
                            go_simp
                            try (with_reducible rfl)
                          try simp only [Act.put, List.setIfInBounds_toArray, List.set_cons_zero, List.set_cons_succ]
                          refine tl_w (i := 20) (v := ?_) rfl (by rfl) (by kernel_rfl) (by kernel_rfl) (by kernel_rfl) (by kernel_rfl) (by kernel_rfl) (fun _ _ _ h => h) (by rfl) hHeld ?_ ?_
                          rotate_left
                          · intro w hSw
                            try dsimp only at hSw
                            go_simp
                            try (with_reducible rfl)
                          try simp only [Act.put, List.setIfInBounds_toArray, List.set_cons_zero, List.set_cons_succ]
                          refine tl_p (i := 21) (v := ?_) rfl (by rfl) (by kernel_rfl) (by kernel_rfl) (by kernel_rfl) (fun _ _ _ h => h) (by rfl) hHeld ?_ ?_
                          rotate_left
                          · intro w
                            go_simp
                            try (with_reducible rfl)
                          try simp only [Act.put, List.setIfInBounds_toArray, List.set_cons_zero, List.set_cons_succ]
                          refine tl_w (i := 22) (v := ?_) rfl (by rfl) (by kernel_rfl) (by kernel_rfl) (by kernel_rfl) (by kernel_rfl) (by kernel_rfl) (fun _ _ _ h => h) (by rfl) hHeld ?_ ?_
                          rotate_left
                          · intro w hSw
                            try dsimp only at hSw
                            go_simp
                            try (with_reducible rfl)
                          try simp only [Act.put, List.setIfInBounds_toArray, List.set_cons_zero, List.set_cons_succ]
                          refine tl_p (i := 23) (v := ?_) rfl (by rfl) (by kernel_rfl) (by kernel_rfl) (by kernel_rfl) (fun _ _ _ h => h) (by rfl) hHeld ?_ ?_
                          rotate_left
                          · intro w
                            go_simp
                            try (with_reducible rfl)
                          try simp only [Act.put, List.setIfInBounds_toArray, List.set_cons_zero, List.set_cons_succ]
                          refine tl_p (i := 24) (v := ?_) rfl (by rfl) (by kernel_rfl) (by kernel_rfl) (by kernel_rfl) (fun _ _ _ h => h) (by rfl) hHeld ?_ ?_
                          rotate_left
                          · intro w
                            go_simp
                            try (with_reducible rfl)
                          try simp only [Act.put, List.setIfInBounds_toArray, List.set_cons_zero, List.set_cons_succ]
                          refine till_done (by kernel_rfl) ?_ _
                          obtain ⟨⟨p0, p1, p2, p3, p4, p5, p6, p7, p8, p9, p10, p11, p12⟩, s1, s2⟩ := hHeld
                          go_wp2_with fail
                          go_roundw
                          case rel => exact ⟨n + 1, _, by omega, by omega, by go_num, hmt.out, haz.out, hS4.out, hX4.out⟩
                          case measure => simp [intOf]; omega
                      · have hy1' := str_ne hy1
                        rw [if_neg (by unfold at_; rw [hoy]; simp [hy1]), hlz] at hmt
                        replace hmt := Lib.hid hmt
                        replace haz := Lib.hid haz
                        clear hoy hlz hy1
                        go_upto_region 18 with fail
                        refine tl_begin (fun (w' : World) => (w'.cell? ⟨b, off + n * 13, none⟩ = some (.int .i64 y0) ∧ w'.cell? ⟨b, off + n * 13 + 1, none⟩ = some (.string y1) ∧ w'.cell? ⟨b, off + n * 13 + 2, none⟩ = some (.string y2) ∧ w'.cell? ⟨b, off + n * 13 + 3, none⟩ = some (.string y3) ∧ w'.cell? ⟨b, off + n * 13 + 4, none⟩ = some (.int .i64 y4) ∧ w'.cell? ⟨b, off + n * 13 + 5, none⟩ = some (.int .i64 y5) ∧ w'.cell? ⟨b, off + n * 13 + 6, none⟩ = some (.bool y6) ∧ w'.cell? ⟨b, off + n * 13 + 7, none⟩ = some (.int .i64 y7) ∧ w'.cell? ⟨b, off + n * 13 + 8, none⟩ = some (.int .i64 y8) ∧ w'.cell? ⟨b, off + n * 13 + 9, none⟩ = some (.int .i64 y9) ∧ w'.cell? ⟨b, off + n * 13 + 10, none⟩ = some (.bool y10) ∧ w'.cell? ⟨b, off + n * 13 + 11, none⟩ = some (.string y11) ∧ w'.cell? ⟨b, off + n * 13 + 12, none⟩ = some (.string y12)) ∧ w'.cell? ⟨q, 1, none⟩ = some (.string z1) ∧ w'.cell? ⟨q, 2, none⟩ = some (.string z2')) [] (by kernel_rfl) (⟨⟨p0, p1, p2, p3, p4, p5, p6, p7, p8, p9, p10, p11, p12⟩, s1, s2⟩) (fun hHeld => ?_)
                        refine tl_p (i := 0) (v := ?_) rfl (by rfl) (by kernel_rfl) (by kernel_rfl) (by kernel_rfl) (fun _ _ _ h => h) (by rfl) hHeld ?_ ?_
                        rotate_left
                        · intro w
                          go_simp
                          try (with_reducible rfl)
                        try simp only [Act.put, List.setIfInBounds_toArray, List.set_cons_zero, List.set_cons_succ]
                        refine tl_p (i := 1) (v := ?_) rfl (by rfl) (by kernel_rfl) (by kernel_rfl) (by kernel_rfl) (fun _ _ _ h => h) (by rfl) hHeld ?_ ?_
                        rotate_left
                        · intro w
                          go_simp
                          try (with_reducible rfl)
                        try simp only [Act.put, List.setIfInBounds_toArray, List.set_cons_zero, List.set_cons_succ]
                        refine tl_p (i := 2) (v := ?_) rfl (by rfl) (by kernel_rfl) (by kernel_rfl) (by kernel_rfl) (fun _ _ _ h => h) (by rfl) hHeld ?_ ?_
                        rotate_left
                        · intro w
                          go_simp
                          try (with_reducible rfl)
                        try simp only [Act.put, List.setIfInBounds_toArray, List.set_cons_zero, List.set_cons_succ]
                        refine tl_w (i := 3) (v := ?_) rfl (by rfl) (by kernel_rfl) (by kernel_rfl) (by kernel_rfl) (by kernel_rfl) (by kernel_rfl) (fun _ _ _ h => h) (by rfl) hHeld ?_ ?_
                        rotate_left
                        · intro w hSw
                          try dsimp only at hSw
                          go_simp
                          try (with_reducible rfl)
                        try simp only [Act.put, List.setIfInBounds_toArray, List.set_cons_zero, List.set_cons_succ]
                        refine tl_do (i := 4) rfl (by kernel_rfl) (by rfl) (fun K hK => ?_)
                        go_simp
                        go_at_call 75
                        refine kO.out.mono ?_; rintro e w4 ⟨rfl, hb4⟩
                        have hc := fun {o : Nat} {v : Value} (h : wr.drew.cell? ⟨b, o, none⟩ = some v) => (hb4.cell (p := ⟨b, o, none⟩) hbl).trans h
                        have hq4 := fun {o : Nat} {v : Value} (h : wr.drew.cell? ⟨q, o, none⟩ = some v) => (hb4.cell (p := ⟨q, o, none⟩) hql).trans h
                        have hcN := And.intro (And.intro (hc p0) (And.intro (hc p1) (And.intro (hc p2) (And.intro (hc p3) (And.intro (hc p4) (And.intro (hc p5) (And.intro (hc p6) (And.intro (hc p7) (And.intro (hc p8) (And.intro (hc p9) (And.intro (hc p10) (And.intro (hc p11) (hc p12))))))))))))) (And.intro (hq4 s1) (hq4 s2))
                        clear hc hq4
                        have hS4 := Lib.hid (hS.out.below hb4)
                        have hX4 := Lib.hid (hX.out.below hb4)
                        clear hb4
                        try go_wp2_with fail
                        refine hK.out _ _ (hcN) (fun hHeld1 => ?_)
                        clear hK K hHeld
                        have hHeld := hHeld1
                        clear hHeld1
                        try simp only [Act.put, List.setIfInBounds_toArray, List.set_cons_zero, List.set_cons_succ]
                        refine tl_p (i := 5) (v := ?_) rfl (by rfl) (by kernel_rfl) (by kernel_rfl) (by kernel_rfl) (fun _ _ _ h => h) (by rfl) hHeld ?_ ?_
                        rotate_left
                        · intro w
                          go_simp
                          try (with_reducible rfl)
                        try simp only [Act.put, List.setIfInBounds_toArray, List.set_cons_zero, List.set_cons_succ]
                        refine tl_p (i := 6) (v := ?_) rfl (by rfl) (by kernel_rfl) (by kernel_rfl) (by kernel_rfl) (fun _ _ _ h => h) (by rfl) hHeld ?_ ?_
                        rotate_left
                        · intro w
                          go_simp
                          try (with_reducible rfl)
                        try simp only [Act.put, List.setIfInBounds_toArray, List.set_cons_zero, List.set_cons_succ]
                        refine tl_p (i := 7) (v := ?_) rfl (by rfl) (by kernel_rfl) (by kernel_rfl) (by kernel_rfl) (fun _ _ _ h => h) (by rfl) hHeld ?_ ?_
                        rotate_left
                        · intro w
                          go_simp
                          try (with_reducible rfl)
                        try simp only [Act.put, List.setIfInBounds_toArray, List.set_cons_zero, List.set_cons_succ]
                        refine tl_p (i := 8) (v := ?_) rfl (by rfl) (by kernel_rfl) (by kernel_rfl) (by kernel_rfl) (fun _ _ _ h => h) (by rfl) hHeld ?_ ?_
                        rotate_left
                        · intro w
                          go_simp
                          try (with_reducible rfl)
                        try simp only [Act.put, List.setIfInBounds_toArray, List.set_cons_zero, List.set_cons_succ]
                        refine tl_p (i := 9) (v := ?_) rfl (by rfl) (by kernel_rfl) (by kernel_rfl) (by kernel_rfl) (fun _ _ _ h => h) (by rfl) hHeld ?_ ?_
                        rotate_left
                        · intro w
                          go_simp
                          try (with_reducible rfl)
                        try simp only [Act.put, List.setIfInBounds_toArray, List.set_cons_zero, List.set_cons_succ]
                        refine tl_w (i := 10) (v := ?_) rfl (by rfl) (by kernel_rfl) (by kernel_rfl) (by kernel_rfl) (by kernel_rfl) (by kernel_rfl) (fun _ _ _ h => h) (by rfl) hHeld ?_ ?_
                        rotate_left
                        · intro w hSw
                          try dsimp only at hSw
                          go_simp
                          try (with_reducible rfl)
                        try simp only [Act.put, List.setIfInBounds_toArray, List.set_cons_zero, List.set_cons_succ]
                        refine tl_p (i := 11) (v := ?_) rfl (by rfl) (by kernel_rfl) (by kernel_rfl) (by kernel_rfl) (fun _ _ _ h => h) (by rfl) hHeld ?_ ?_
                        rotate_left
                        · intro w
                          go_simp
                          try (with_reducible rfl)
                        try simp only [Act.put, List.setIfInBounds_toArray, List.set_cons_zero, List.set_cons_succ]
                        refine tl_w (i := 12) (v := ?_) rfl (by rfl) (by kernel_rfl) (by kernel_rfl) (by kernel_rfl) (by kernel_rfl) (by kernel_rfl) (fun _ _ _ h => h) (by rfl) hHeld ?_ ?_
                        rotate_left
                        · intro w hSw
                          try dsimp only at hSw
                          go_simp
                          try (with_reducible rfl)
                        try simp only [Act.put, List.setIfInBounds_toArray, List.set_cons_zero, List.set_cons_succ]
                        refine tl_p (i := 13) (v := ?_) rfl (by rfl) (by kernel_rfl) (by kernel_rfl) (by kernel_rfl) (fun _ _ _ h => h) (by rfl) hHeld ?_ ?_
                        rotate_left
                        · intro w
                          go_simp
                          try (with_reducible rfl)
                        try simp only [Act.put, List.setIfInBounds_toArray, List.set_cons_zero, List.set_cons_succ]
                        refine tl_p (i := 14) (v := ?_) rfl (by rfl) (by kernel_rfl) (by kernel_rfl) (by kernel_rfl) (fun _ _ _ h => h) (by rfl) hHeld ?_ ?_
                        rotate_left
                        · intro w
                          go_simp
                          try (with_reducible rfl)
                        try simp only [Act.put, List.setIfInBounds_toArray, List.set_cons_zero, List.set_cons_succ]
                        refine tl_p (i := 15) (v := ?_) rfl (by rfl) (by kernel_rfl) (by kernel_rfl) (by kernel_rfl) (fun _ _ _ h => h) (by rfl) hHeld ?_ ?_
                        rotate_left
                        · intro w
                          go_simp
                          try (with_reducible rfl)
                        try simp only [Act.put, List.setIfInBounds_toArray, List.set_cons_zero, List.set_cons_succ]
                        refine tl_u (i := 16) rfl (by rfl) (by kernel_rfl) (by kernel_rfl) (by kernel_rfl) (fun _ _ _ h => h) (by rfl) hHeld ?_
                        try simp only [Act.put, List.setIfInBounds_toArray, List.set_cons_zero, List.set_cons_succ]
                        refine tl_u (i := 17) rfl (by rfl) (by kernel_rfl) (by kernel_rfl) (by kernel_rfl) (fun _ _ _ h => h) (by rfl) hHeld ?_
                        try simp only [Act.put, List.setIfInBounds_toArray, List.set_cons_zero, List.set_cons_succ]
                        refine tl_u (i := 18) rfl (by rfl) (by kernel_rfl) (by kernel_rfl) (by kernel_rfl) (fun _ _ _ h => h) (by rfl) hHeld ?_
                        try simp only [Act.put, List.setIfInBounds_toArray, List.set_cons_zero, List.set_cons_succ]
                        refine tl_u (i := 19) rfl (by rfl) (by kernel_rfl) (by kernel_rfl) (by kernel_rfl) (fun _ _ _ h => h) (by rfl) hHeld ?_
                        try simp only [Act.put, List.setIfInBounds_toArray, List.set_cons_zero, List.set_cons_succ]
                        refine tl_u (i := 20) rfl (by rfl) (by kernel_rfl) (by kernel_rfl) (by kernel_rfl) (fun _ _ _ h => h) (by rfl) hHeld ?_
                        try simp only [Act.put, List.setIfInBounds_toArray, List.set_cons_zero, List.set_cons_succ]
                        refine tl_u (i := 21) rfl (by rfl) (by kernel_rfl) (by kernel_rfl) (by kernel_rfl) (fun _ _ _ h => h) (by rfl) hHeld ?_
                        try simp only [Act.put, List.setIfInBounds_toArray, List.set_cons_zero, List.set_cons_succ]
                        refine tl_u (i := 22) rfl (by rfl) (by kernel_rfl) (by kernel_rfl) (by kernel_rfl) (fun _ _ _ h => h) (by rfl) hHeld ?_
                        try simp only [Act.put, List.setIfInBounds_toArray, List.set_cons_zero, List.set_cons_succ]
                        refine tl_u (i := 23) rfl (by rfl) (by kernel_rfl) (by kernel_rfl) (by kernel_rfl) (fun _ _ _ h => h) (by rfl) hHeld ?_
                        try simp only [Act.put, List.setIfInBounds_toArray, List.set_cons_zero, List.set_cons_succ]
                        refine tl_p (i := 24) (v := ?_) rfl (by rfl) (by kernel_rfl) (by kernel_rfl) (by kernel_rfl) (fun _ _ _ h => h) (by rfl) hHeld ?_ ?_
                        rotate_left
                        · intro w
                          go_simp
                          try (with_reducible rfl)
                        try simp only [Act.put, List.setIfInBounds_toArray, List.set_cons_zero, List.set_cons_succ]
                        refine till_done (by kernel_rfl) ?_ _
                        clear hHeld
                        go_wp2_with fail
                        go_roundw
                        case rel => exact ⟨n + 1, _, by omega, by omega, by go_num, hmt.out, haz.out, hS4.out, hX4.out⟩
                        case measure => simp [intOf]; omega
                  · have hnE2 : n = E.length := by omega
                    subst hnE2
                    rw [List.take_length] at hlz
                    have q6 : ¬ (E.length : Int) < (E.length : Int) := by omega
                    have hsu3 := hsu2.out
                    rw [hlz] at hsu3
                    have hth : thereB L ⟨z0, z1, z2', z3, z4, z5, z6, ⟨z7, z8, z9, z10, z11, z12⟩⟩ = (look (baseR L z1) z2').isSome := rfl
                    replace hsu3 := hsu3.trans (show M ++ keepE L ⟨z0, z1, z2', z3, z4, z5, z6, ⟨z7, z8, z9, z10, z11, z12⟩⟩ = _ from rfl)
                    unfold keepE at hsu3
                    rw [hth] at hsu3
                    simp only at hsu3
                    have kG := rget1_any wr next _ L (.slice none 0 0) [] z1 z2' (hL.out.below hS.b) (View.nil _ _) hm hr.out (by simp) hoB.out (by simp) z2 (base_srt hs.out)
                    rw [show tab L [] z1 = baseR L z1 from rfl] at kG
                    generalize look (baseR L z1) z2' = lr at *
                    have e0 := hS.x.cell 0
                    have e1 := hS.x.cell 1
                    have e2 := hS.x.lt
                    have s1 := hX.cell 1
                    have s2 := hX.cell 2
                    have s3 := hX.lt
                    replace kG := Lib.hid kG
                    replace hS := Lib.hid hS
                    replace hX := Lib.hid hX
                    replace hsu3 := Lib.hid hsu3
                    clear hsu2 haz hlz hth
                    go_upto_region 21 with (go_at_call 33; refine kG.out.mono ?_; rintro e w5 ⟨rfl, hb5⟩)
                    have hS5 := hS.out.below hb5
                    have hX5 := hX.out.below hb5
                    have c0 := hX5.cell 0
                    clear kG e0 e1 e2 s1 s2 s3 hS hX hb5
                    have c1 := hX5.cell 1
                    have c2 := hX5.cell 2
                    have c3 := hX5.cell 3
                    have c4 := hX5.cell 4
                    have c5 := hX5.cell 5
                    have c6 := hX5.cell 6
                    have c7 := hX5.cell 7
                    have c8 := hX5.cell 8
                    have c9 := hX5.cell 9
                    have c10 := hX5.cell 10
                    have c11 := hX5.cell 11
                    have c12 := hX5.cell 12
                    have s3 := hX5.lt
                    clear hX5
                    have hS5' := Lib.hid hS5
                    by_cases hz02 : z0 = 2
                    · subst hz02
                      have hsu4 := hsu3.out
                      rw [if_pos (.inl rfl)] at hsu4
                      replace hsu4 := Lib.hid hsu4
                      clear hsu3
                      go_upto_region 22 with fail
                      have hal6 : Below w5.heap.size w5 (w5.alloc (.cells (Ef.mk 2 z1 z2' z3 z4 z5 z6 ⟨z7, z8, z9, z10, z11, z12⟩).cells.toArray 50)) := (Below.refl _ _).alloc (Nat.le_refl _) _
                      have hS6 := Lib.hid (hS5.below hal6)
                      have hsz6 : w.heap.size + 1 ≤ (w5.alloc (.cells (Ef.mk 2 z1 z2' z3 z4 z5 z6 ⟨z7, z8, z9, z10, z11, z12⟩).cells.toArray 50)).heap.size := by have := hS5.x.lt; simp; omega
                      have hvx := Lib.hid (View.boxAt (sz := 13) w5 (Ef.mk 2 z1 z2' z3 z4 z5 z6 ⟨z7, z8, z9, z10, z11, z12⟩).cells 50 w5.heap.size rfl rfl)
                      have hob6 : (w5.alloc (.cells (Ef.mk 2 z1 z2' z3 z4 z5 z6 ⟨z7, z8, z9, z10, z11, z12⟩).cells.toArray 50)).ownsRow (w.heap.size + 1) 50 13 u5 M.length (M.flatMap Ef.cells) := hS6.out.o
                      replace hob6 := Lib.hid hob6
                      clear hal6 hS5
                      go_wp2_with (at_builtin; refine wpList_append_view _ rfl (.tmp 126) (.tmp 128) _ rfl (w.heap.size + 1) 50 i0 zEf 13 144 Try.underlying46 hi0 hz0 hz1 hz2 rfl (by decide) _ M.length _ rfl hob6.out _ 1 (Ef.mk 2 z1 z2' z3 z4 z5 z6 ⟨z7, z8, z9, z10, z11, z12⟩).cells rfl hvx.out (Ef.one1 _) (by omega) (by simp only [maxLen]; omega) hsz6 ?_; intro v3 w3 hown hg hat)
                      have hS7 := hS6.out.app hown hg
                      go_roundw
                      case rel => exact ⟨m + 1, by omega, by go_num, by rw [hsu4.out]; exact hS7⟩
                      case measure => simp [intOf]; omega
                    · have hz02' : (z0 == 2) = false := beq_eq_false_iff_ne.2 hz02
                      cases lr with
                      | some t =>
                        have hsu4 := hsu3.out
                        rw [if_pos (.inr rfl)] at hsu4
                        replace hsu4 := Lib.hid hsu4
                        clear hsu3
                        go_upto_region 22 with fail
                        have hal6 : Below w5.heap.size w5 (w5.alloc (.cells (Ef.mk z0 z1 z2' z3 z4 z5 z6 ⟨z7, z8, z9, z10, z11, z12⟩).cells.toArray 50)) := (Below.refl _ _).alloc (Nat.le_refl _) _
                        have hS6 := Lib.hid (hS5.below hal6)
                        have hsz6 : w.heap.size + 1 ≤ (w5.alloc (.cells (Ef.mk z0 z1 z2' z3 z4 z5 z6 ⟨z7, z8, z9, z10, z11, z12⟩).cells.toArray 50)).heap.size := by have := hS5.x.lt; simp; omega
                        have hvx := Lib.hid (View.boxAt (sz := 13) w5 (Ef.mk z0 z1 z2' z3 z4 z5 z6 ⟨z7, z8, z9, z10, z11, z12⟩).cells 50 w5.heap.size rfl rfl)
                        have hob6 : (w5.alloc (.cells (Ef.mk z0 z1 z2' z3 z4 z5 z6 ⟨z7, z8, z9, z10, z11, z12⟩).cells.toArray 50)).ownsRow (w.heap.size + 1) 50 13 u5 M.length (M.flatMap Ef.cells) := hS6.out.o
                        replace hob6 := Lib.hid hob6
                        clear hal6 hS5
                        go_wp2_with (at_builtin; refine wpList_append_view _ rfl (.tmp 126) (.tmp 128) _ rfl (w.heap.size + 1) 50 i0 zEf 13 144 Try.underlying46 hi0 hz0 hz1 hz2 rfl (by decide) _ M.length _ rfl hob6.out _ 1 (Ef.mk z0 z1 z2' z3 z4 z5 z6 ⟨z7, z8, z9, z10, z11, z12⟩).cells rfl hvx.out (Ef.one1 _) (by omega) (by simp only [maxLen]; omega) hsz6 ?_; intro v3 w3 hown hg hat)
                        have hS7 := hS6.out.app hown hg
                        go_roundw
                        case rel => exact ⟨m + 1, by omega, by go_num, by rw [hsu4.out]; exact hS7⟩
                        case measure => simp [intOf]; omega
                      | none =>
                        have hsu4 := hsu3.out
                        rw [if_neg (by rintro (h | h); exact hz02 h; cases h), List.append_nil] at hsu4
                        replace hsu4 := Lib.hid hsu4
                        clear hsu3 hS5
                        go_wp2_with fail
                        go_roundw
                        case rel => exact ⟨m + 1, by omega, by go_num, by rw [hsu4.out]; exact hS5'.out⟩
                        case measure => simp [intOf]; omega
    · have hlt' : k = E.length := by omega
      subst hlt'
      have hSo := own_mono hS.o (Nat.le_succ _)
      have hBe := hS.b
      replace hS := Lib.hid hS
      go_wp2_with fail
      go_ret
      exact ⟨_, rfl, hSo, hBe⟩
end Go.Proofs.Ytegomkgfmaclkaa
