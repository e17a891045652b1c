-- PRINTED BY print.sh 35421559b90ae4d0a3588c463048766b98c2df88dd9212a6774a882060cdf62d: not written by this session
import Derived.Test.YtppcofcgdbflpaaPModesAbovex0
import Derived.Test.YtppcofcgdbflpaaPModesAbovex1
namespace Go.Proofs.Ytppcofcgdbflpaa.PModesAbove
open Go.RowKit Go.Proofs.YtppcofcgdbflpaaW.PrintWords Go.Proofs.YtppcofcgdbflpaaW.PrintLast Go.Proofs.YtppcofcgdbflpaaW.PrintMore
attribute [local go_sem] max2_int min2_int max_two min_two max_three min_three max_four min_four   -- for this text's walks alone
set_option linter.unusedVariables false
set_option linter.unusedSimpArgs false

/-! ### postelaw10_ModesAbove: function 11 -/
mutual
def postelaw10_ModesAbove.j0 : Nat → Int → Int → Bool → Bool → Option (Bool)
  | 0, _, _, _, _ => none
  | k + 1, x0, x1, x5, x26 => if x26 = true then (some x5) else ((modes_Above.f x0).bind fun t165 => ((modes_Above.f x1).bind fun t166 => ((modes_Covers.f k x0 x1).bind fun t167 => (if t167 = true then ((modes_Covers.f k t165 t166).bind fun t168 => (if t168 = true then ((modes_Covers.f k x0 t165).bind fun t169 => (postelaw10_ModesAbove.j1 k x0 x1 t165 t166 (!t169))) else (postelaw10_ModesAbove.j1 k x0 x1 t165 t166 true))) else ((modes_Covers.f k x0 t165).bind fun t170 => (postelaw10_ModesAbove.j1 k x0 x1 t165 t166 (!t170)))))))
def postelaw10_ModesAbove.j1 : Nat → Int → Int → Int → Int → Bool → Option (Bool)
  | 0, _, _, _, _, _ => none
  | k + 1, x0, x1, x6, x7, x46 => if x46 = true then (some false) else ((modes_Fits.f k x0 x1).bind fun t171 => (if t171 = true then ((modes_Fits.f k x6 x7).bind fun t172 => (some t172)) else (some true)))
end
def postelaw10_ModesAbove.f (k : Nat) (a0 : Int) (a1 : Int) : Option (Bool) := (postelaw10_alive.f k).bind fun t164 => (if t164 = true then (if a0 < 0 then (postelaw10_ModesAbove.j0 k a0 a1 t164 true) else (if a0 > 5 then (postelaw10_ModesAbove.j0 k a0 a1 t164 true) else (if a1 < 0 then (postelaw10_ModesAbove.j0 k a0 a1 t164 true) else (postelaw10_ModesAbove.j0 k a0 a1 t164 (decide (a1 > 5)))))) else (postelaw10_ModesAbove.j0 k a0 a1 t164 true))
theorem postelaw10_ModesAbove.mono_l : ∀ k, (∀ y0 y1 y2 y3, LeO (postelaw10_ModesAbove.j0 k y0 y1 y2 y3) (postelaw10_ModesAbove.j0 (k + 1) y0 y1 y2 y3)) ∧ (∀ y0 y1 y2 y3 y4, LeO (postelaw10_ModesAbove.j1 k y0 y1 y2 y3 y4) (postelaw10_ModesAbove.j1 (k + 1) y0 y1 y2 y3 y4))
  | 0 => ⟨fun _ _ _ _ r h => by simp [postelaw10_ModesAbove.j0] at h, fun _ _ _ _ _ r h => by simp [postelaw10_ModesAbove.j1] at h⟩
  | k + 1 => by
    obtain ⟨ih0, ih1⟩ := postelaw10_ModesAbove.mono_l k
    refine ⟨?_, ?_⟩
    · intro y0 y1 y2 y3
      unfold postelaw10_ModesAbove.j0
      repeat' first
      | (with_reducible exact ih0 _ _ _ _)
      | (with_reducible exact ih1 _ _ _ _ _)
      | (with_reducible exact modes_Covers.mono _ _ _)
      | (with_reducible exact modes_Fits.mono _ _ _)
      | (with_reducible exact postelaw10_alive.mono _)
      | (with_reducible exact LeO.refl _)
      | (with_reducible exact LeO.none _)
      | (with_reducible refine LeO.ite ?_ ?_)
      | (with_reducible refine LeO.bind ?_ (fun _ => ?_))
      | exact ih0 _ _ _ _
      | exact ih1 _ _ _ _ _
      | exact modes_Covers.mono _ _ _
      | exact modes_Fits.mono _ _ _
      | exact postelaw10_alive.mono _
      | exact LeO.none _
      | refine LeO.ite ?_ ?_
      | refine LeO.bind ?_ (fun _ => ?_)
    · intro y0 y1 y2 y3 y4
      unfold postelaw10_ModesAbove.j1
      repeat' first
      | (with_reducible exact ih0 _ _ _ _)
      | (with_reducible exact ih1 _ _ _ _ _)
      | (with_reducible exact modes_Covers.mono _ _ _)
      | (with_reducible exact modes_Fits.mono _ _ _)
      | (with_reducible exact postelaw10_alive.mono _)
      | (with_reducible exact LeO.refl _)
      | (with_reducible exact LeO.none _)
      | (with_reducible refine LeO.ite ?_ ?_)
      | (with_reducible refine LeO.bind ?_ (fun _ => ?_))
      | exact ih0 _ _ _ _
      | exact ih1 _ _ _ _ _
      | exact modes_Covers.mono _ _ _
      | exact modes_Fits.mono _ _ _
      | exact postelaw10_alive.mono _
      | exact LeO.none _
      | refine LeO.ite ?_ ?_
      | refine LeO.bind ?_ (fun _ => ?_)
theorem postelaw10_ModesAbove.mono : ∀ a0 a1 k, LeO (postelaw10_ModesAbove.f k a0 a1) (postelaw10_ModesAbove.f (k + 1) a0 a1) := by
  intro a0 a1 k
  obtain ⟨ih0, ih1⟩ := postelaw10_ModesAbove.mono_l k
  unfold postelaw10_ModesAbove.f
  repeat' first
      | (with_reducible exact ih0 _ _ _ _)
      | (with_reducible exact ih1 _ _ _ _ _)
      | (with_reducible exact modes_Covers.mono _ _ _)
      | (with_reducible exact modes_Fits.mono _ _ _)
      | (with_reducible exact postelaw10_alive.mono _)
      | (with_reducible exact LeO.refl _)
      | (with_reducible exact LeO.none _)
      | (with_reducible refine LeO.ite ?_ ?_)
      | (with_reducible refine LeO.bind ?_ (fun _ => ?_))
      | exact ih0 _ _ _ _
      | exact ih1 _ _ _ _ _
      | exact modes_Covers.mono _ _ _
      | exact modes_Fits.mono _ _ _
      | exact postelaw10_alive.mono _
      | exact LeO.none _
      | refine LeO.ite ?_ ?_
      | refine LeO.bind ?_ (fun _ => ?_)
set_option maxHeartbeats 8000000 in
set_option maxRecDepth 100000 in
theorem postelaw10_ModesAbove.calls (k : Nat) (a0 : Int) (a1 : Int) (r : Bool) (w : World) (h : postelaw10_ModesAbove.f k a0 a1 = some r) :
    Calls Try.prog 11 #[.int .i64 a0, .int .i64 a1] w fun e w' => e = .returned (.bool r) ∧ Below w.heap.size w w' := by
  have HB := Aside0.mk (Below.refl w.heap.size w)
  have H : ((postelaw10_alive.f k).bind fun t164 => (if t164 = true then (if a0 < 0 then (postelaw10_ModesAbove.j0 k a0 a1 t164 true) else (if a0 > 5 then (postelaw10_ModesAbove.j0 k a0 a1 t164 true) else (if a1 < 0 then (postelaw10_ModesAbove.j0 k a0 a1 t164 true) else (postelaw10_ModesAbove.j0 k a0 a1 t164 (decide (a1 > 5)))))) else (postelaw10_ModesAbove.j0 k a0 a1 t164 true))) = some r := h
  clear h
  replace H := Option.bind_eq_some_iff.mp H
  obtain ⟨t164, A30, H⟩ := H
  replace H : (if t164 = true then (if a0 < 0 then (postelaw10_ModesAbove.j0 k a0 a1 t164 true) else (if a0 > 5 then (postelaw10_ModesAbove.j0 k a0 a1 t164 true) else (if a1 < 0 then (postelaw10_ModesAbove.j0 k a0 a1 t164 true) else (postelaw10_ModesAbove.j0 k a0 a1 t164 (decide (a1 > 5)))))) else (postelaw10_ModesAbove.j0 k a0 a1 t164 true)) = some r := H
  have A3 := Aside0.mk A30
  clear A30
  have HC4 := Aside0.mk H
  clear H
  go_enter Try.func11, Try.ntmps11
  go_upto_region 2 with (first | ((with_reducible refine gate_callee (f := 33) rfl ?_); refine goesL_ (some 8) rfl rfl Try.func33 (by kernel_rfl) rfl #[] rfl (by (try simp only [List.map_toArray, List.map_cons, List.map_nil]); first | done | rfl | (simp only [List.length_drop, List.length_take]; rfl)) ?_; (with_reducible refine (postelaw10_alive.calls k  t164 _ A3.out).mono ?_); rintro e w5 ⟨rfl, hb⟩; refine ⟨_, rfl, ?_⟩; have n0_ := Aside0.mk (below_step (by repeat (first | (with_reducible first | exact HB.out | apply below_alloc | apply pw_below_drewN | apply below_drew1) | exact HB.out)) hb); clear HB; have HB := n0_; clear n0_; (try clear hb); (try clear hb2); (try clear hk); (try clear hi)))
  (try simp only [Act.put, List.setIfInBounds_toArray, List.set_cons_zero, List.set_cons_succ])
  go_cut [26] (fun v26 wc => ∃ (kq : Nat) (x26_3 : Bool), v26 = .bool x26_3 ∧ Aside0 (postelaw10_ModesAbove.j0 kq a0 a1 t164 x26_3 = some r) ∧ Aside0 (kq ≤ k) ∧ Aside0 (Below w.heap.size w wc))
  case first =>
    have H := HC4.out
    clear HC4
    by_cases c6 : t164 = true
    · subst c6
      have H1 : (if a0 < 0 then (postelaw10_ModesAbove.j0 k a0 a1 true true) else (if a0 > 5 then (postelaw10_ModesAbove.j0 k a0 a1 true true) else (if a1 < 0 then (postelaw10_ModesAbove.j0 k a0 a1 true true) else (postelaw10_ModesAbove.j0 k a0 a1 true (decide (a1 > 5)))))) = some r := by rw [if_pos rfl] at H; exact H
      clear H
      have H := H1
      clear H1
      by_cases c7 : a0 < 0
      · rw [if_pos c7] at H
        have c7b0 : decide (a0 < 0) = true := decide_eq_true c7
        clear c7
        (first | rw [c7b0] | (simp only [i64_w, i32_w]; rw [c7b0]) | skip)
        have H' := Aside0.mk H
        clear H
        go_wp2
        go_meet
        case rel => exact ⟨_, (true), (by first | rfl | (simp; done) | (simp [*]; done)), H', ⟨by first | omega | exact Nat.le_refl _⟩, ⟨by repeat (first | (with_reducible first | exact HB.out | apply below_alloc | apply pw_below_drewN | apply below_drew1) | exact HB.out)⟩⟩
      · rw [if_neg c7] at H
        have c7b0 : decide (a0 < 0) = false := decide_eq_false c7
        clear c7
        (first | rw [c7b0] | (simp only [i64_w, i32_w]; rw [c7b0]) | skip)
        by_cases c8 : a0 > 5
        · rw [if_pos c8] at H
          have c8b0 : decide (5 < a0) = true := decide_eq_true c8
          clear c8
          have H' := Aside0.mk H
          clear H
          go_wp2
          go_meet
          case rel => exact ⟨_, (true), (by first | rfl | (simp; done) | (simp [*]; done)), H', ⟨by first | omega | exact Nat.le_refl _⟩, ⟨by repeat (first | (with_reducible first | exact HB.out | apply below_alloc | apply pw_below_drewN | apply below_drew1) | exact HB.out)⟩⟩
        · rw [if_neg c8] at H
          have c8b0 : decide (5 < a0) = false := decide_eq_false c8
          clear c8
          by_cases c9 : a1 < 0
          · rw [if_pos c9] at H
            have c9b0 : decide (a1 < 0) = true := decide_eq_true c9
            clear c9
            have H' := Aside0.mk H
            clear H
            go_wp2
            go_meet
            case rel => exact ⟨_, (true), (by first | rfl | (simp; done) | (simp [*]; done)), H', ⟨by first | omega | exact Nat.le_refl _⟩, ⟨by repeat (first | (with_reducible first | exact HB.out | apply below_alloc | apply pw_below_drewN | apply below_drew1) | exact HB.out)⟩⟩
          · rw [if_neg c9] at H
            have c9b0 : decide (a1 < 0) = false := decide_eq_false c9
            clear c9
            have H' := Aside0.mk H
            clear H
            go_wp2
            go_meet
            case rel => exact ⟨_, (decide (a1 > 5)), (by first | rfl | (simp; done) | (simp [*]; done)), H', ⟨by first | omega | exact Nat.le_refl _⟩, ⟨by repeat (first | (with_reducible first | exact HB.out | apply below_alloc | apply pw_below_drewN | apply below_drew1) | exact HB.out)⟩⟩
    · replace c6 := Bool.eq_false_iff.mpr c6
      subst c6
      have H1 : (postelaw10_ModesAbove.j0 k a0 a1 false true) = some r := by rw [if_neg (show ¬ (false = true) by decide)] at H; exact H
      clear H
      have H := H1
      clear H1
      have H' := Aside0.mk H
      clear H
      go_wp2
      go_meet
      case rel => exact ⟨_, (true), (by first | rfl | (simp; done) | (simp [*]; done)), H', ⟨by first | omega | exact Nat.le_refl _⟩, ⟨by repeat (first | (with_reducible first | exact HB.out | apply below_alloc | apply pw_below_drewN | apply below_drew1) | exact HB.out)⟩⟩
  case rest =>
    clear HC4
    try clear c1
    try clear p2
    try clear c3
    try clear c6
    try clear c7
    try clear c7b0
    try clear c8
    try clear c8b0
    try clear c9
    try clear c9b0
    obtain ⟨kq, x26_3, rfl, HA, HJ3, HB⟩ := hcut
    cases kq with
    | zero => exact absurd HA.out (by simp [postelaw10_ModesAbove.j0])
    | succ kj3 =>
      have H := HA.out
      clear HA
      simp only [postelaw10_ModesAbove.j0] at H
      by_cases c10 : x26_3 = true
      · subst c10
        have H1 : (some t164) = some r := by rw [if_pos rfl] at H; exact H
        clear H
        have H := H1
        clear H1
        obtain rfl := Option.some.inj H
        go_wp2
        go_ret
        exact ⟨by first | rfl | (simp [errW_none, errW_some] <;> rfl) | (simp [*, errW_none, errW_some] <;> rfl), by repeat (first | (with_reducible first | exact HB.out | apply below_alloc | apply pw_below_drewN | apply below_drew1) | exact HB.out)⟩
      · replace c10 := Bool.eq_false_iff.mpr c10
        subst c10
        have H1 : ((modes_Above.f a0).bind fun t165 => ((modes_Above.f a1).bind fun t166 => ((modes_Covers.f kj3 a0 a1).bind fun t167 => (if t167 = true then ((modes_Covers.f kj3 t165 t166).bind fun t168 => (if t168 = true then ((modes_Covers.f kj3 a0 t165).bind fun t169 => (postelaw10_ModesAbove.j1 kj3 a0 a1 t165 t166 (!t169))) else (postelaw10_ModesAbove.j1 kj3 a0 a1 t165 t166 true))) else ((modes_Covers.f kj3 a0 t165).bind fun t170 => (postelaw10_ModesAbove.j1 kj3 a0 a1 t165 t166 (!t170))))))) = some r := by rw [if_neg (show ¬ (false = true) by decide)] at H; exact H
        clear H
        have H := H1
        clear H1
        replace H := Option.bind_eq_some_iff.mp H
        obtain ⟨t165, A110, H⟩ := H
        replace H : ((modes_Above.f a1).bind fun t166 => ((modes_Covers.f kj3 a0 a1).bind fun t167 => (if t167 = true then ((modes_Covers.f kj3 t165 t166).bind fun t168 => (if t168 = true then ((modes_Covers.f kj3 a0 t165).bind fun t169 => (postelaw10_ModesAbove.j1 kj3 a0 a1 t165 t166 (!t169))) else (postelaw10_ModesAbove.j1 kj3 a0 a1 t165 t166 true))) else ((modes_Covers.f kj3 a0 t165).bind fun t170 => (postelaw10_ModesAbove.j1 kj3 a0 a1 t165 t166 (!t170)))))) = some r := H
        have A11 := Aside0.mk A110
        clear A110
        replace H := Option.bind_eq_some_iff.mp H
        obtain ⟨t166, A120, H⟩ := H
        replace H : ((modes_Covers.f kj3 a0 a1).bind fun t167 => (if t167 = true then ((modes_Covers.f kj3 t165 t166).bind fun t168 => (if t168 = true then ((modes_Covers.f kj3 a0 t165).bind fun t169 => (postelaw10_ModesAbove.j1 kj3 a0 a1 t165 t166 (!t169))) else (postelaw10_ModesAbove.j1 kj3 a0 a1 t165 t166 true))) else ((modes_Covers.f kj3 a0 t165).bind fun t170 => (postelaw10_ModesAbove.j1 kj3 a0 a1 t165 t166 (!t170))))) = some r := H
        have A12 := Aside0.mk A120
        clear A120
        have HC13 := Aside0.mk H
        clear H
        go_upto_region 6 with (first | ((with_reducible refine gate_callee (f := 40) rfl ?_); refine goesL_ (some 29) rfl rfl Try.func40 (by kernel_rfl) rfl #[.int .i64 a0] rfl (by (try simp only [List.map_toArray, List.map_cons, List.map_nil]); first | done | rfl | (simp only [List.length_drop, List.length_take]; rfl)) ?_; (with_reducible refine (modes_Above.calls a0 t165 _ A11.out).mono ?_); rintro e w' ⟨rfl, ⟨nd, rfl⟩⟩; refine ⟨_, rfl, ?_⟩) | ((with_reducible refine gate_callee (f := 40) rfl ?_); refine goesL_ (some 31) rfl rfl Try.func40 (by kernel_rfl) rfl #[.int .i64 a1] rfl (by (try simp only [List.map_toArray, List.map_cons, List.map_nil]); first | done | rfl | (simp only [List.length_drop, List.length_take]; rfl)) ?_; (with_reducible refine (modes_Above.calls a1 t166 _ A12.out).mono ?_); rintro e w' ⟨rfl, ⟨nd, rfl⟩⟩; refine ⟨_, rfl, ?_⟩))
        (try simp only [Act.put, List.setIfInBounds_toArray, List.set_cons_zero, List.set_cons_succ])
        go_cut [46] (fun v46 wc => ∃ (kq : Nat) (x46_12 : Bool), v46 = .bool x46_12 ∧ Aside0 (postelaw10_ModesAbove.j1 kq a0 a1 t165 t166 x46_12 = some r) ∧ Aside0 (kq ≤ kj3) ∧ Aside0 (Below w.heap.size w wc))
        case first =>
          have H := HC13.out
          clear HC13
          replace H := Option.bind_eq_some_iff.mp H
          obtain ⟨t167, A140, H⟩ := H
          replace H : (if t167 = true then ((modes_Covers.f kj3 t165 t166).bind fun t168 => (if t168 = true then ((modes_Covers.f kj3 a0 t165).bind fun t169 => (postelaw10_ModesAbove.j1 kj3 a0 a1 t165 t166 (!t169))) else (postelaw10_ModesAbove.j1 kj3 a0 a1 t165 t166 true))) else ((modes_Covers.f kj3 a0 t165).bind fun t170 => (postelaw10_ModesAbove.j1 kj3 a0 a1 t165 t166 (!t170)))) = some r := H
          have A14 := Aside0.mk A140
          clear A140
          by_cases c15 : t167 = true
          · subst c15
            have H1 : ((modes_Covers.f kj3 t165 t166).bind fun t168 => (if t168 = true then ((modes_Covers.f kj3 a0 t165).bind fun t169 => (postelaw10_ModesAbove.j1 kj3 a0 a1 t165 t166 (!t169))) else (postelaw10_ModesAbove.j1 kj3 a0 a1 t165 t166 true))) = some r := by rw [if_pos rfl] at H; exact H
            clear H
            have H := H1
            clear H1
            replace H := Option.bind_eq_some_iff.mp H
            obtain ⟨t168, A160, H⟩ := H
            replace H : (if t168 = true then ((modes_Covers.f kj3 a0 t165).bind fun t169 => (postelaw10_ModesAbove.j1 kj3 a0 a1 t165 t166 (!t169))) else (postelaw10_ModesAbove.j1 kj3 a0 a1 t165 t166 true)) = some r := H
            have A16 := Aside0.mk A160
            clear A160
            by_cases c17 : t168 = true
            · subst c17
              have H1 : ((modes_Covers.f kj3 a0 t165).bind fun t169 => (postelaw10_ModesAbove.j1 kj3 a0 a1 t165 t166 (!t169))) = some r := by rw [if_pos rfl] at H; exact H
              clear H
              have H := H1
              clear H1
              replace H := Option.bind_eq_some_iff.mp H
              obtain ⟨t169, A180, H⟩ := H
              replace H : (postelaw10_ModesAbove.j1 kj3 a0 a1 t165 t166 (!t169)) = some r := H
              have A18 := Aside0.mk A180
              clear A180
              have H' := Aside0.mk H
              clear H
              go_wp2_with (first | ((with_reducible refine gate_callee (f := 36) rfl ?_); refine goesL_ (some 34) rfl rfl Try.func36 (by kernel_rfl) rfl #[.int .i64 a0, .int .i64 a1] rfl (by (try simp only [List.map_toArray, List.map_cons, List.map_nil]); first | done | rfl | (simp only [List.length_drop, List.length_take]; rfl)) ?_; (with_reducible refine (modes_Covers.calls kj3 a0 a1 true _ A14.out).mono ?_); rintro e w19 ⟨rfl, hb⟩; refine ⟨_, rfl, ?_⟩; have n0_ := Aside0.mk (below_step (by repeat (first | (with_reducible first | exact HB.out | apply below_alloc | apply pw_below_drewN | apply below_drew1) | exact HB.out)) hb); clear HB; have HB := n0_; clear n0_; (try clear hb); (try clear hb2); (try clear hk); (try clear hi)) | (go_at_call 36; (with_reducible refine (modes_Covers.calls kj3 t165 t166 true _ A16.out).mono ?_); rintro e w20 ⟨rfl, hb⟩; have n0_ := Aside0.mk (below_step (by repeat (first | (with_reducible first | exact HB.out | apply below_alloc | apply pw_below_drewN | apply below_drew1) | exact HB.out)) hb); clear HB; have HB := n0_; clear n0_; (try clear hb); (try clear hb2); (try clear hk); (try clear hi)) | (go_at_call 36; (with_reducible refine (modes_Covers.calls kj3 a0 t165 t169 _ A18.out).mono ?_); rintro e w21 ⟨rfl, hb⟩; have n0_ := Aside0.mk (below_step (by repeat (first | (with_reducible first | exact HB.out | apply below_alloc | apply pw_below_drewN | apply below_drew1) | exact HB.out)) hb); clear HB; have HB := n0_; clear n0_; (try clear hb); (try clear hb2); (try clear hk); (try clear hi)))
              go_meet
              case rel => exact ⟨_, (!t169), (by first | rfl | (simp; done) | (simp [*]; done)), H', ⟨by have := HJ3.out; first | omega | exact Nat.le_refl _⟩, ⟨by repeat (first | (with_reducible first | exact HB.out | apply below_alloc | apply pw_below_drewN | apply below_drew1) | exact HB.out)⟩⟩
            · replace c17 := Bool.eq_false_iff.mpr c17
              subst c17
              have H1 : (postelaw10_ModesAbove.j1 kj3 a0 a1 t165 t166 true) = some r := by rw [if_neg (show ¬ (false = true) by decide)] at H; exact H
              clear H
              have H := H1
              clear H1
              have H' := Aside0.mk H
              clear H
              go_wp2_with (first | ((with_reducible refine gate_callee (f := 36) rfl ?_); refine goesL_ (some 34) rfl rfl Try.func36 (by kernel_rfl) rfl #[.int .i64 a0, .int .i64 a1] rfl (by (try simp only [List.map_toArray, List.map_cons, List.map_nil]); first | done | rfl | (simp only [List.length_drop, List.length_take]; rfl)) ?_; (with_reducible refine (modes_Covers.calls kj3 a0 a1 true _ A14.out).mono ?_); rintro e w22 ⟨rfl, hb⟩; refine ⟨_, rfl, ?_⟩; have n0_ := Aside0.mk (below_step (by repeat (first | (with_reducible first | exact HB.out | apply below_alloc | apply pw_below_drewN | apply below_drew1) | exact HB.out)) hb); clear HB; have HB := n0_; clear n0_; (try clear hb); (try clear hb2); (try clear hk); (try clear hi)) | (go_at_call 36; (with_reducible refine (modes_Covers.calls kj3 t165 t166 false _ A16.out).mono ?_); rintro e w23 ⟨rfl, hb⟩; have n0_ := Aside0.mk (below_step (by repeat (first | (with_reducible first | exact HB.out | apply below_alloc | apply pw_below_drewN | apply below_drew1) | exact HB.out)) hb); clear HB; have HB := n0_; clear n0_; (try clear hb); (try clear hb2); (try clear hk); (try clear hi)))
              go_meet
              case rel => exact ⟨_, (true), (by first | rfl | (simp; done) | (simp [*]; done)), H', ⟨by have := HJ3.out; first | omega | exact Nat.le_refl _⟩, ⟨by repeat (first | (with_reducible first | exact HB.out | apply below_alloc | apply pw_below_drewN | apply below_drew1) | exact HB.out)⟩⟩
          · replace c15 := Bool.eq_false_iff.mpr c15
            subst c15
            have H1 : ((modes_Covers.f kj3 a0 t165).bind fun t170 => (postelaw10_ModesAbove.j1 kj3 a0 a1 t165 t166 (!t170))) = some r := by rw [if_neg (show ¬ (false = true) by decide)] at H; exact H
            clear H
            have H := H1
            clear H1
            replace H := Option.bind_eq_some_iff.mp H
            obtain ⟨t170, A240, H⟩ := H
            replace H : (postelaw10_ModesAbove.j1 kj3 a0 a1 t165 t166 (!t170)) = some r := H
            have A24 := Aside0.mk A240
            clear A240
            have H' := Aside0.mk H
            clear H
            go_wp2_with (first | ((with_reducible refine gate_callee (f := 36) rfl ?_); refine goesL_ (some 34) rfl rfl Try.func36 (by kernel_rfl) rfl #[.int .i64 a0, .int .i64 a1] rfl (by (try simp only [List.map_toArray, List.map_cons, List.map_nil]); first | done | rfl | (simp only [List.length_drop, List.length_take]; rfl)) ?_; (with_reducible refine (modes_Covers.calls kj3 a0 a1 false _ A14.out).mono ?_); rintro e w25 ⟨rfl, hb⟩; refine ⟨_, rfl, ?_⟩; have n0_ := Aside0.mk (below_step (by repeat (first | (with_reducible first | exact HB.out | apply below_alloc | apply pw_below_drewN | apply below_drew1) | exact HB.out)) hb); clear HB; have HB := n0_; clear n0_; (try clear hb); (try clear hb2); (try clear hk); (try clear hi)) | (go_at_call 36; (with_reducible refine (modes_Covers.calls kj3 a0 t165 t170 _ A24.out).mono ?_); rintro e w26 ⟨rfl, hb⟩; have n0_ := Aside0.mk (below_step (by repeat (first | (with_reducible first | exact HB.out | apply below_alloc | apply pw_below_drewN | apply below_drew1) | exact HB.out)) hb); clear HB; have HB := n0_; clear n0_; (try clear hb); (try clear hb2); (try clear hk); (try clear hi)))
            go_meet
            case rel => exact ⟨_, (!t170), (by first | rfl | (simp; done) | (simp [*]; done)), H', ⟨by have := HJ3.out; first | omega | exact Nat.le_refl _⟩, ⟨by repeat (first | (with_reducible first | exact HB.out | apply below_alloc | apply pw_below_drewN | apply below_drew1) | exact HB.out)⟩⟩
        case rest =>
          clear HC13
          try clear c1
          try clear p2
          try clear c3
          try clear c4
          try clear c6
          try clear c7
          try clear c7b0
          try clear c8
          try clear c8b0
          try clear c9
          try clear c9b0
          try clear c10
          try clear c11
          try clear c15
          try clear c17
          try clear p2
          obtain ⟨kq, x46_12, rfl, HA, HJ12, HB⟩ := hcut
          cases kq with
          | zero => exact absurd HA.out (by simp [postelaw10_ModesAbove.j1])
          | succ kj12 =>
            have H := HA.out
            clear HA
            simp only [postelaw10_ModesAbove.j1] at H
            by_cases c27 : x46_12 = true
            · subst c27
              have H1 : (some false) = some r := by rw [if_pos rfl] at H; exact H
              clear H
              have H := H1
              clear H1
              obtain rfl := Option.some.inj H
              go_wp2
              go_ret
              exact ⟨by first | rfl | (simp [errW_none, errW_some] <;> rfl) | (simp [*, errW_none, errW_some] <;> rfl), by repeat (first | (with_reducible first | exact HB.out | apply below_alloc | apply pw_below_drewN | apply below_drew1) | exact HB.out)⟩
            · replace c27 := Bool.eq_false_iff.mpr c27
              subst c27
              have H1 : ((modes_Fits.f kj12 a0 a1).bind fun t171 => (if t171 = true then ((modes_Fits.f kj12 t165 t166).bind fun t172 => (some t172)) else (some true))) = some r := by rw [if_neg (show ¬ (false = true) by decide)] at H; exact H
              clear H
              have H := H1
              clear H1
              replace H := Option.bind_eq_some_iff.mp H
              obtain ⟨t171, A280, H⟩ := H
              replace H : (if t171 = true then ((modes_Fits.f kj12 t165 t166).bind fun t172 => (some t172)) else (some true)) = some r := H
              have A28 := Aside0.mk A280
              clear A280
              by_cases c29 : t171 = true
              · subst c29
                have H1 : ((modes_Fits.f kj12 t165 t166).bind fun t172 => (some t172)) = some r := by rw [if_pos rfl] at H; exact H
                clear H
                have H := H1
                clear H1
                replace H := Option.bind_eq_some_iff.mp H
                obtain ⟨t172, A300, H⟩ := H
                replace H : (some t172) = some r := H
                have A30 := Aside0.mk A300
                clear A300
                obtain rfl := Option.some.inj H
                go_wp2_with (first | ((with_reducible refine gate_callee (f := 35) rfl ?_); refine goesL_ (some 49) rfl rfl Try.func35 (by kernel_rfl) rfl #[.int .i64 a0, .int .i64 a1] rfl (by (try simp only [List.map_toArray, List.map_cons, List.map_nil]); first | done | rfl | (simp only [List.length_drop, List.length_take]; rfl)) ?_; (with_reducible refine (modes_Fits.calls kj12 a0 a1 true _ A28.out).mono ?_); rintro e w31 ⟨rfl, hb⟩; refine ⟨_, rfl, ?_⟩; have n0_ := Aside0.mk (below_step (by repeat (first | (with_reducible first | exact HB.out | apply below_alloc | apply pw_below_drewN | apply below_drew1) | exact HB.out)) hb); clear HB; have HB := n0_; clear n0_; (try clear hb); (try clear hb2); (try clear hk); (try clear hi)) | (go_at_call 35; (with_reducible refine (modes_Fits.calls kj12 t165 t166 t172 _ A30.out).mono ?_); rintro e w32 ⟨rfl, hb⟩; have n0_ := Aside0.mk (below_step (by repeat (first | (with_reducible first | exact HB.out | apply below_alloc | apply pw_below_drewN | apply below_drew1) | exact HB.out)) hb); clear HB; have HB := n0_; clear n0_; (try clear hb); (try clear hb2); (try clear hk); (try clear hi)))
                go_ret
                exact ⟨by first | rfl | (simp [errW_none, errW_some] <;> rfl) | (simp [*, errW_none, errW_some] <;> rfl), by repeat (first | (with_reducible first | exact HB.out | apply below_alloc | apply pw_below_drewN | apply below_drew1) | exact HB.out)⟩
              · replace c29 := Bool.eq_false_iff.mpr c29
                subst c29
                have H1 : (some true) = some r := by rw [if_neg (show ¬ (false = true) by decide)] at H; exact H
                clear H
                have H := H1
                clear H1
                obtain rfl := Option.some.inj H
                go_wp2_with (first | ((with_reducible refine gate_callee (f := 35) rfl ?_); refine goesL_ (some 49) rfl rfl Try.func35 (by kernel_rfl) rfl #[.int .i64 a0, .int .i64 a1] rfl (by (try simp only [List.map_toArray, List.map_cons, List.map_nil]); first | done | rfl | (simp only [List.length_drop, List.length_take]; rfl)) ?_; (with_reducible refine (modes_Fits.calls kj12 a0 a1 false _ A28.out).mono ?_); rintro e w33 ⟨rfl, hb⟩; refine ⟨_, rfl, ?_⟩; have n0_ := Aside0.mk (below_step (by repeat (first | (with_reducible first | exact HB.out | apply below_alloc | apply pw_below_drewN | apply below_drew1) | exact HB.out)) hb); clear HB; have HB := n0_; clear n0_; (try clear hb); (try clear hb2); (try clear hk); (try clear hi)))
                go_ret
                exact ⟨by first | rfl | (simp [errW_none, errW_some] <;> rfl) | (simp [*, errW_none, errW_some] <;> rfl), by repeat (first | (with_reducible first | exact HB.out | apply below_alloc | apply pw_below_drewN | apply below_drew1) | exact HB.out)⟩

/-- THE ONE PURE STATEMENT of postelaw10_ModesAbove: yours. -/
def postelaw10_ModesAbove.Pure : Prop := ∀ (a0 : Int) (a1 : Int), (Lit.int .i64 a0).wf = true → (Lit.int .i64 a1).wf = true → ∃ k, postelaw10_ModesAbove.f k a0 a1 = some true
theorem postelaw10_ModesAbove.walk (P : postelaw10_ModesAbove.Pure) (a0 : Int) (a1 : Int) (w : World) (w0 : (Lit.int .i64 a0).wf = true) (w1 : (Lit.int .i64 a1).wf = true) :
    Calls Try.prog 11 #[.int .i64 a0, .int .i64 a1] w fun e w' => e = .returned (.bool true) ∧ Below w.heap.size w w' := by
  obtain ⟨k, h⟩ := P a0 a1 w0 w1
  refine (postelaw10_ModesAbove.calls k a0 a1 true w h).mono ?_
  rintro e w' ⟨rfl, hd⟩
  exact ⟨rfl, hd⟩

end Go.Proofs.Ytppcofcgdbflpaa.PModesAbove
