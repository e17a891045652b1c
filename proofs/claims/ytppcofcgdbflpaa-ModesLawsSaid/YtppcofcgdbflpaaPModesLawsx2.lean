-- PRINTED BY print.sh 35421559b90ae4d0a3588c463048766b98c2df88dd9212a6774a882060cdf62d: not written by this session
import Derived.Test.YtppcofcgdbflpaaPModesLawsx0
import Derived.Test.YtppcofcgdbflpaaPModesLawsx1
namespace Go.Proofs.Ytppcofcgdbflpaa.PModesLaws
open Go.RowKit Go.Proofs.YtppcofcgdbflpaaW.PrintWords Go.Proofs.YtppcofcgdbflpaaW.PrintLast Go.Proofs.YtppcofcgdbflpaaW.PrintMore
attribute [local go_sem] max2_int min2_int max_two min_two max_three min_three max_four min_four   -- for this text's walks alone
set_option linter.unusedVariables false
set_option linter.unusedSimpArgs false

/-! ### postelaw10_ModesLaws: function 9 -/
mutual
def postelaw10_ModesLaws.j0 : Nat → Int → Int → Int → Bool → Bool → Option (Bool)
  | 0, _, _, _, _, _ => none
  | k + 1, x0, x1, x2, x7, x35 => if x35 = true then (some x7) else ((modes_Join.f k x0 x1).bind fun t164 => ((modes_Fits.f k x0 x1).bind fun t165 => ((modes_Fits.f k x1 x0).bind fun t166 => (if (t165 != t166) = true then (postelaw10_ModesLaws.j1 k x0 x1 x2 t164 true) else ((modes_Covers.f k x0 x1).bind fun t167 => (if t167 = true then ((modes_Fits.f k x0 x2).bind fun t168 => (if t168 = true then ((modes_Fits.f k x1 x2).bind fun t169 => (postelaw10_ModesLaws.j1 k x0 x1 x2 t164 (!t169))) else (postelaw10_ModesLaws.j1 k x0 x1 x2 t164 false))) else (postelaw10_ModesLaws.j1 k x0 x1 x2 t164 false)))))))
def postelaw10_ModesLaws.j1 : Nat → Int → Int → Int → Int → Bool → Option (Bool)
  | 0, _, _, _, _, _ => none
  | k + 1, x0, x1, x2, x8, x62 => if x62 = true then (some false) else ((modes_Covers.f k x8 x0).bind fun t170 => (if t170 = true then ((modes_Covers.f k x8 x1).bind fun t171 => (if t171 = true then ((modes_Join.f k x1 x0).bind fun t172 => (if t172 = x8 then ((modes_Join.f k x0 x0).bind fun t173 => (postelaw10_ModesLaws.j2 k x0 x1 x2 x8 (t173 != x0))) else (postelaw10_ModesLaws.j2 k x0 x1 x2 x8 true))) else (postelaw10_ModesLaws.j2 k x0 x1 x2 x8 true))) else (postelaw10_ModesLaws.j2 k x0 x1 x2 x8 true)))
def postelaw10_ModesLaws.j2 : Nat → Int → Int → Int → Int → Bool → Option (Bool)
  | 0, _, _, _, _, _ => none
  | k + 1, x0, x1, x2, x8, x86 => if x86 = true then (some false) else ((modes_Covers.f k x2 x0).bind fun t174 => (if t174 = true then ((modes_Covers.f k x2 x1).bind fun t175 => (if t175 = true then ((modes_Covers.f k x2 x8).bind fun t176 => (postelaw10_ModesLaws.j3 k x0 x1 (!t176))) else (postelaw10_ModesLaws.j3 k x0 x1 false))) else (postelaw10_ModesLaws.j3 k x0 x1 false)))
def postelaw10_ModesLaws.j3 : Nat → Int → Int → Bool → Option (Bool)
  | 0, _, _, _ => none
  | k + 1, x0, x1, x100 => if x100 = true then (some false) else ((modes_Covers.f k x0 x1).bind fun t177 => (if t177 = true then ((modes_Covers.f k x1 x0).bind fun t178 => (if t178 = true then (some (x0 == x1)) else (some true))) else (some true)))
end
def postelaw10_ModesLaws.f (k : Nat) (a0 : Int) (a1 : Int) (a2 : Int) : Option (Bool) := (postelaw10_alive.f k).bind fun t163 => (if t163 = true then (if a0 < 0 then (postelaw10_ModesLaws.j0 k a0 a1 a2 t163 true) else (if a0 > 5 then (postelaw10_ModesLaws.j0 k a0 a1 a2 t163 true) else (if a1 < 0 then (postelaw10_ModesLaws.j0 k a0 a1 a2 t163 true) else (if a1 > 5 then (postelaw10_ModesLaws.j0 k a0 a1 a2 t163 true) else (if a2 < 0 then (postelaw10_ModesLaws.j0 k a0 a1 a2 t163 true) else (postelaw10_ModesLaws.j0 k a0 a1 a2 t163 (decide (a2 > 5)))))))) else (postelaw10_ModesLaws.j0 k a0 a1 a2 t163 true))
theorem postelaw10_ModesLaws.mono_l : ∀ k, (∀ y0 y1 y2 y3 y4, LeO (postelaw10_ModesLaws.j0 k y0 y1 y2 y3 y4) (postelaw10_ModesLaws.j0 (k + 1) y0 y1 y2 y3 y4)) ∧ (∀ y0 y1 y2 y3 y4, LeO (postelaw10_ModesLaws.j1 k y0 y1 y2 y3 y4) (postelaw10_ModesLaws.j1 (k + 1) y0 y1 y2 y3 y4)) ∧ (∀ y0 y1 y2 y3 y4, LeO (postelaw10_ModesLaws.j2 k y0 y1 y2 y3 y4) (postelaw10_ModesLaws.j2 (k + 1) y0 y1 y2 y3 y4)) ∧ (∀ y0 y1 y2, LeO (postelaw10_ModesLaws.j3 k y0 y1 y2) (postelaw10_ModesLaws.j3 (k + 1) y0 y1 y2))
  | 0 => ⟨fun _ _ _ _ _ r h => by simp [postelaw10_ModesLaws.j0] at h, fun _ _ _ _ _ r h => by simp [postelaw10_ModesLaws.j1] at h, fun _ _ _ _ _ r h => by simp [postelaw10_ModesLaws.j2] at h, fun _ _ _ r h => by simp [postelaw10_ModesLaws.j3] at h⟩
  | k + 1 => by
    obtain ⟨ih0, ih1, ih2, ih3⟩ := postelaw10_ModesLaws.mono_l k
    refine ⟨?_, ?_, ?_, ?_⟩
    · intro y0 y1 y2 y3 y4
      unfold postelaw10_ModesLaws.j0
      repeat' first
      | (with_reducible exact ih0 _ _ _ _ _)
      | (with_reducible exact ih1 _ _ _ _ _)
      | (with_reducible exact ih2 _ _ _ _ _)
      | (with_reducible exact ih3 _ _ _)
      | (with_reducible exact modes_Covers.mono _ _ _)
      | (with_reducible exact modes_Fits.mono _ _ _)
      | (with_reducible exact modes_Join.mono _ _ _)
      | (with_reducible exact postelaw10_alive.mono _)
      | (with_reducible exact LeO.refl _)
      | (with_reducible exact LeO.none _)
      | (with_reducible refine LeO.ite ?_ ?_)
      | (with_reducible refine LeO.bind ?_ (fun _ => ?_))
      | exact ih0 _ _ _ _ _
      | exact ih1 _ _ _ _ _
      | exact ih2 _ _ _ _ _
      | exact ih3 _ _ _
      | exact modes_Covers.mono _ _ _
      | exact modes_Fits.mono _ _ _
      | exact modes_Join.mono _ _ _
      | exact postelaw10_alive.mono _
      | exact LeO.none _
      | refine LeO.ite ?_ ?_
      | refine LeO.bind ?_ (fun _ => ?_)
    · intro y0 y1 y2 y3 y4
      unfold postelaw10_ModesLaws.j1
      repeat' first
      | (with_reducible exact ih0 _ _ _ _ _)
      | (with_reducible exact ih1 _ _ _ _ _)
      | (with_reducible exact ih2 _ _ _ _ _)
      | (with_reducible exact ih3 _ _ _)
      | (with_reducible exact modes_Covers.mono _ _ _)
      | (with_reducible exact modes_Fits.mono _ _ _)
      | (with_reducible exact modes_Join.mono _ _ _)
      | (with_reducible exact postelaw10_alive.mono _)
      | (with_reducible exact LeO.refl _)
      | (with_reducible exact LeO.none _)
      | (with_reducible refine LeO.ite ?_ ?_)
      | (with_reducible refine LeO.bind ?_ (fun _ => ?_))
      | exact ih0 _ _ _ _ _
      | exact ih1 _ _ _ _ _
      | exact ih2 _ _ _ _ _
      | exact ih3 _ _ _
      | exact modes_Covers.mono _ _ _
      | exact modes_Fits.mono _ _ _
      | exact modes_Join.mono _ _ _
      | exact postelaw10_alive.mono _
      | exact LeO.none _
      | refine LeO.ite ?_ ?_
      | refine LeO.bind ?_ (fun _ => ?_)
    · intro y0 y1 y2 y3 y4
      unfold postelaw10_ModesLaws.j2
      repeat' first
      | (with_reducible exact ih0 _ _ _ _ _)
      | (with_reducible exact ih1 _ _ _ _ _)
      | (with_reducible exact ih2 _ _ _ _ _)
      | (with_reducible exact ih3 _ _ _)
      | (with_reducible exact modes_Covers.mono _ _ _)
      | (with_reducible exact modes_Fits.mono _ _ _)
      | (with_reducible exact modes_Join.mono _ _ _)
      | (with_reducible exact postelaw10_alive.mono _)
      | (with_reducible exact LeO.refl _)
      | (with_reducible exact LeO.none _)
      | (with_reducible refine LeO.ite ?_ ?_)
      | (with_reducible refine LeO.bind ?_ (fun _ => ?_))
      | exact ih0 _ _ _ _ _
      | exact ih1 _ _ _ _ _
      | exact ih2 _ _ _ _ _
      | exact ih3 _ _ _
      | exact modes_Covers.mono _ _ _
      | exact modes_Fits.mono _ _ _
      | exact modes_Join.mono _ _ _
      | exact postelaw10_alive.mono _
      | exact LeO.none _
      | refine LeO.ite ?_ ?_
      | refine LeO.bind ?_ (fun _ => ?_)
    · intro y0 y1 y2
      unfold postelaw10_ModesLaws.j3
      repeat' first
      | (with_reducible exact ih0 _ _ _ _ _)
      | (with_reducible exact ih1 _ _ _ _ _)
      | (with_reducible exact ih2 _ _ _ _ _)
      | (with_reducible exact ih3 _ _ _)
      | (with_reducible exact modes_Covers.mono _ _ _)
      | (with_reducible exact modes_Fits.mono _ _ _)
      | (with_reducible exact modes_Join.mono _ _ _)
      | (with_reducible exact postelaw10_alive.mono _)
      | (with_reducible exact LeO.refl _)
      | (with_reducible exact LeO.none _)
      | (with_reducible refine LeO.ite ?_ ?_)
      | (with_reducible refine LeO.bind ?_ (fun _ => ?_))
      | exact ih0 _ _ _ _ _
      | exact ih1 _ _ _ _ _
      | exact ih2 _ _ _ _ _
      | exact ih3 _ _ _
      | exact modes_Covers.mono _ _ _
      | exact modes_Fits.mono _ _ _
      | exact modes_Join.mono _ _ _
      | exact postelaw10_alive.mono _
      | exact LeO.none _
      | refine LeO.ite ?_ ?_
      | refine LeO.bind ?_ (fun _ => ?_)
theorem postelaw10_ModesLaws.mono : ∀ a0 a1 a2 k, LeO (postelaw10_ModesLaws.f k a0 a1 a2) (postelaw10_ModesLaws.f (k + 1) a0 a1 a2) := by
  intro a0 a1 a2 k
  obtain ⟨ih0, ih1, ih2, ih3⟩ := postelaw10_ModesLaws.mono_l k
  unfold postelaw10_ModesLaws.f
  repeat' first
      | (with_reducible exact ih0 _ _ _ _ _)
      | (with_reducible exact ih1 _ _ _ _ _)
      | (with_reducible exact ih2 _ _ _ _ _)
      | (with_reducible exact ih3 _ _ _)
      | (with_reducible exact modes_Covers.mono _ _ _)
      | (with_reducible exact modes_Fits.mono _ _ _)
      | (with_reducible exact modes_Join.mono _ _ _)
      | (with_reducible exact postelaw10_alive.mono _)
      | (with_reducible exact LeO.refl _)
      | (with_reducible exact LeO.none _)
      | (with_reducible refine LeO.ite ?_ ?_)
      | (with_reducible refine LeO.bind ?_ (fun _ => ?_))
      | exact ih0 _ _ _ _ _
      | exact ih1 _ _ _ _ _
      | exact ih2 _ _ _ _ _
      | exact ih3 _ _ _
      | exact modes_Covers.mono _ _ _
      | exact modes_Fits.mono _ _ _
      | exact modes_Join.mono _ _ _
      | exact postelaw10_alive.mono _
      | exact LeO.none _
      | refine LeO.ite ?_ ?_
      | refine LeO.bind ?_ (fun _ => ?_)
set_option maxHeartbeats 8000000 in
set_option maxRecDepth 100000 in
theorem postelaw10_ModesLaws.calls (k : Nat) (a0 : Int) (a1 : Int) (a2 : Int) (r : Bool) (w : World) (h : postelaw10_ModesLaws.f k a0 a1 a2 = some r) :
    Calls Try.prog 9 #[.int .i64 a0, .int .i64 a1, .int .i64 a2] w fun e w' => e = .returned (.bool r) ∧ Below w.heap.size w w' := by
  have HB := Aside0.mk (Below.refl w.heap.size w)
  have H : ((postelaw10_alive.f k).bind fun t163 => (if t163 = true then (if a0 < 0 then (postelaw10_ModesLaws.j0 k a0 a1 a2 t163 true) else (if a0 > 5 then (postelaw10_ModesLaws.j0 k a0 a1 a2 t163 true) else (if a1 < 0 then (postelaw10_ModesLaws.j0 k a0 a1 a2 t163 true) else (if a1 > 5 then (postelaw10_ModesLaws.j0 k a0 a1 a2 t163 true) else (if a2 < 0 then (postelaw10_ModesLaws.j0 k a0 a1 a2 t163 true) else (postelaw10_ModesLaws.j0 k a0 a1 a2 t163 (decide (a2 > 5)))))))) else (postelaw10_ModesLaws.j0 k a0 a1 a2 t163 true))) = some r := h
  clear h
  replace H := Option.bind_eq_some_iff.mp H
  obtain ⟨t163, A40, H⟩ := H
  replace H : (if t163 = true then (if a0 < 0 then (postelaw10_ModesLaws.j0 k a0 a1 a2 t163 true) else (if a0 > 5 then (postelaw10_ModesLaws.j0 k a0 a1 a2 t163 true) else (if a1 < 0 then (postelaw10_ModesLaws.j0 k a0 a1 a2 t163 true) else (if a1 > 5 then (postelaw10_ModesLaws.j0 k a0 a1 a2 t163 true) else (if a2 < 0 then (postelaw10_ModesLaws.j0 k a0 a1 a2 t163 true) else (postelaw10_ModesLaws.j0 k a0 a1 a2 t163 (decide (a2 > 5)))))))) else (postelaw10_ModesLaws.j0 k a0 a1 a2 t163 true)) = some r := H
  have A4 := Aside0.mk A40
  clear A40
  have HC5 := Aside0.mk H
  clear H
  go_enter Try.func9, Try.ntmps9
  go_upto_region 2 with (first | ((with_reducible refine gate_callee (f := 33) rfl ?_); refine goesL_ (some 9) rfl rfl Try.func33 (by kernel_rfl) rfl #[] rfl (by (try simp only [List.map_toArray, List.map_cons, List.map_nil]); first | done | rfl | (simp only [List.length_drop, List.length_take]; rfl)) ?_; (with_reducible refine (postelaw10_alive.calls k  t163 _ A4.out).mono ?_); rintro e w6 ⟨rfl, hb⟩; refine ⟨_, rfl, ?_⟩; have n0_ := Aside0.mk (below_step (by repeat (first | (with_reducible first | exact HB.out | apply below_alloc | apply pw_below_drewN | apply below_drew1) | exact HB.out)) hb); clear HB; have HB := n0_; clear n0_; (try clear hb); (try clear hb2); (try clear hk); (try clear hi)))
  (try simp only [Act.put, List.setIfInBounds_toArray, List.set_cons_zero, List.set_cons_succ])
  go_cut [35] (fun v35 wc => ∃ (kq : Nat) (x35_4 : Bool), v35 = .bool x35_4 ∧ Aside0 (postelaw10_ModesLaws.j0 kq a0 a1 a2 t163 x35_4 = some r) ∧ Aside0 (kq ≤ k) ∧ Aside0 (Below w.heap.size w wc))
  case first =>
    have H := HC5.out
    clear HC5
    by_cases c7 : t163 = true
    · subst c7
      have H1 : (if a0 < 0 then (postelaw10_ModesLaws.j0 k a0 a1 a2 true true) else (if a0 > 5 then (postelaw10_ModesLaws.j0 k a0 a1 a2 true true) else (if a1 < 0 then (postelaw10_ModesLaws.j0 k a0 a1 a2 true true) else (if a1 > 5 then (postelaw10_ModesLaws.j0 k a0 a1 a2 true true) else (if a2 < 0 then (postelaw10_ModesLaws.j0 k a0 a1 a2 true true) else (postelaw10_ModesLaws.j0 k a0 a1 a2 true (decide (a2 > 5)))))))) = some r := by rw [if_pos rfl] at H; exact H
      clear H
      have H := H1
      clear H1
      by_cases c8 : a0 < 0
      · rw [if_pos c8] at H
        have c8b0 : decide (a0 < 0) = true := decide_eq_true c8
        clear c8
        (first | rw [c8b0] | (simp only [i64_w, i32_w]; rw [c8b0]) | skip)
        have H' := Aside0.mk H
        clear H
        go_wp2
        go_meet
        case rel => exact ⟨_, (true), (by first | rfl | (simp; done) | (simp [*]; done)), H', ⟨by first | omega | exact Nat.le_refl _⟩, ⟨by repeat (first | (with_reducible first | exact HB.out | apply below_alloc | apply pw_below_drewN | apply below_drew1) | exact HB.out)⟩⟩
      · rw [if_neg c8] at H
        have c8b0 : decide (a0 < 0) = false := decide_eq_false c8
        clear c8
        (first | rw [c8b0] | (simp only [i64_w, i32_w]; rw [c8b0]) | skip)
        by_cases c9 : a0 > 5
        · rw [if_pos c9] at H
          have c9b0 : decide (5 < a0) = true := decide_eq_true c9
          clear c9
          have H' := Aside0.mk H
          clear H
          go_wp2
          go_meet
          case rel => exact ⟨_, (true), (by first | rfl | (simp; done) | (simp [*]; done)), H', ⟨by first | omega | exact Nat.le_refl _⟩, ⟨by repeat (first | (with_reducible first | exact HB.out | apply below_alloc | apply pw_below_drewN | apply below_drew1) | exact HB.out)⟩⟩
        · rw [if_neg c9] at H
          have c9b0 : decide (5 < a0) = false := decide_eq_false c9
          clear c9
          by_cases c10 : a1 < 0
          · rw [if_pos c10] at H
            have c10b0 : decide (a1 < 0) = true := decide_eq_true c10
            clear c10
            have H' := Aside0.mk H
            clear H
            go_wp2
            go_meet
            case rel => exact ⟨_, (true), (by first | rfl | (simp; done) | (simp [*]; done)), H', ⟨by first | omega | exact Nat.le_refl _⟩, ⟨by repeat (first | (with_reducible first | exact HB.out | apply below_alloc | apply pw_below_drewN | apply below_drew1) | exact HB.out)⟩⟩
          · rw [if_neg c10] at H
            have c10b0 : decide (a1 < 0) = false := decide_eq_false c10
            clear c10
            by_cases c11 : a1 > 5
            · rw [if_pos c11] at H
              have c11b0 : decide (5 < a1) = true := decide_eq_true c11
              clear c11
              have H' := Aside0.mk H
              clear H
              go_wp2
              go_meet
              case rel => exact ⟨_, (true), (by first | rfl | (simp; done) | (simp [*]; done)), H', ⟨by first | omega | exact Nat.le_refl _⟩, ⟨by repeat (first | (with_reducible first | exact HB.out | apply below_alloc | apply pw_below_drewN | apply below_drew1) | exact HB.out)⟩⟩
            · rw [if_neg c11] at H
              have c11b0 : decide (5 < a1) = false := decide_eq_false c11
              clear c11
              by_cases c12 : a2 < 0
              · rw [if_pos c12] at H
                have c12b0 : decide (a2 < 0) = true := decide_eq_true c12
                clear c12
                have H' := Aside0.mk H
                clear H
                go_wp2
                go_meet
                case rel => exact ⟨_, (true), (by first | rfl | (simp; done) | (simp [*]; done)), H', ⟨by first | omega | exact Nat.le_refl _⟩, ⟨by repeat (first | (with_reducible first | exact HB.out | apply below_alloc | apply pw_below_drewN | apply below_drew1) | exact HB.out)⟩⟩
              · rw [if_neg c12] at H
                have c12b0 : decide (a2 < 0) = false := decide_eq_false c12
                clear c12
                have H' := Aside0.mk H
                clear H
                go_wp2
                go_meet
                case rel => exact ⟨_, (decide (a2 > 5)), (by first | rfl | (simp; done) | (simp [*]; done)), H', ⟨by first | omega | exact Nat.le_refl _⟩, ⟨by repeat (first | (with_reducible first | exact HB.out | apply below_alloc | apply pw_below_drewN | apply below_drew1) | exact HB.out)⟩⟩
    · replace c7 := Bool.eq_false_iff.mpr c7
      subst c7
      have H1 : (postelaw10_ModesLaws.j0 k a0 a1 a2 false true) = some r := by rw [if_neg (show ¬ (false = true) by decide)] at H; exact H
      clear H
      have H := H1
      clear H1
      have H' := Aside0.mk H
      clear H
      go_wp2
      go_meet
      case rel => exact ⟨_, (true), (by first | rfl | (simp; done) | (simp [*]; done)), H', ⟨by first | omega | exact Nat.le_refl _⟩, ⟨by repeat (first | (with_reducible first | exact HB.out | apply below_alloc | apply pw_below_drewN | apply below_drew1) | exact HB.out)⟩⟩
  case rest =>
    clear HC5
    try clear c1
    try clear p2
    try clear c3
    try clear c7
    try clear c8
    try clear c8b0
    try clear c9
    try clear c9b0
    try clear c10
    try clear c10b0
    try clear c11
    try clear c11b0
    try clear c12
    try clear c12b0
    obtain ⟨kq, x35_4, rfl, HA, HJ4, HB⟩ := hcut
    cases kq with
    | zero => exact absurd HA.out (by simp [postelaw10_ModesLaws.j0])
    | succ kj4 =>
      have H := HA.out
      clear HA
      simp only [postelaw10_ModesLaws.j0] at H
      by_cases c13 : x35_4 = true
      · subst c13
        have H1 : (some t163) = some r := by rw [if_pos rfl] at H; exact H
        clear H
        have H := H1
        clear H1
        obtain rfl := Option.some.inj H
        go_wp2
        go_ret
        exact ⟨by first | rfl | (simp [errW_none, errW_some] <;> rfl) | (simp [*, errW_none, errW_some] <;> rfl), by repeat (first | (with_reducible first | exact HB.out | apply below_alloc | apply pw_below_drewN | apply below_drew1) | exact HB.out)⟩
      · replace c13 := Bool.eq_false_iff.mpr c13
        subst c13
        have H1 : ((modes_Join.f kj4 a0 a1).bind fun t164 => ((modes_Fits.f kj4 a0 a1).bind fun t165 => ((modes_Fits.f kj4 a1 a0).bind fun t166 => (if (t165 != t166) = true then (postelaw10_ModesLaws.j1 kj4 a0 a1 a2 t164 true) else ((modes_Covers.f kj4 a0 a1).bind fun t167 => (if t167 = true then ((modes_Fits.f kj4 a0 a2).bind fun t168 => (if t168 = true then ((modes_Fits.f kj4 a1 a2).bind fun t169 => (postelaw10_ModesLaws.j1 kj4 a0 a1 a2 t164 (!t169))) else (postelaw10_ModesLaws.j1 kj4 a0 a1 a2 t164 false))) else (postelaw10_ModesLaws.j1 kj4 a0 a1 a2 t164 false))))))) = some r := by rw [if_neg (show ¬ (false = true) by decide)] at H; exact H
        clear H
        have H := H1
        clear H1
        replace H := Option.bind_eq_some_iff.mp H
        obtain ⟨t164, A140, H⟩ := H
        replace H : ((modes_Fits.f kj4 a0 a1).bind fun t165 => ((modes_Fits.f kj4 a1 a0).bind fun t166 => (if (t165 != t166) = true then (postelaw10_ModesLaws.j1 kj4 a0 a1 a2 t164 true) else ((modes_Covers.f kj4 a0 a1).bind fun t167 => (if t167 = true then ((modes_Fits.f kj4 a0 a2).bind fun t168 => (if t168 = true then ((modes_Fits.f kj4 a1 a2).bind fun t169 => (postelaw10_ModesLaws.j1 kj4 a0 a1 a2 t164 (!t169))) else (postelaw10_ModesLaws.j1 kj4 a0 a1 a2 t164 false))) else (postelaw10_ModesLaws.j1 kj4 a0 a1 a2 t164 false)))))) = some r := H
        have A14 := Aside0.mk A140
        clear A140
        have HC15 := Aside0.mk H
        clear H
        go_upto_region 5 with (first | ((with_reducible refine gate_callee (f := 34) rfl ?_); refine goesL_ (some 39) rfl rfl Try.func34 (by kernel_rfl) rfl #[.int .i64 a0, .int .i64 a1] rfl (by (try simp only [List.map_toArray, List.map_cons, List.map_nil]); first | done | rfl | (simp only [List.length_drop, List.length_take]; rfl)) ?_; (with_reducible refine (modes_Join.calls kj4 a0 a1 t164 _ A14.out).mono ?_); rintro e w16 ⟨rfl, hb⟩; refine ⟨_, rfl, ?_⟩; have n0_ := Aside0.mk (below_step (by repeat (first | (with_reducible first | exact HB.out | apply below_alloc | apply pw_below_drewN | apply below_drew1) | exact HB.out)) hb); clear HB; have HB := n0_; clear n0_; (try clear hb); (try clear hb2); (try clear hk); (try clear hi)))
        (try simp only [Act.put, List.setIfInBounds_toArray, List.set_cons_zero, List.set_cons_succ])
        go_cut [62] (fun v62 wc => ∃ (kq : Nat) (x62_14 : Bool), v62 = .bool x62_14 ∧ Aside0 (postelaw10_ModesLaws.j1 kq a0 a1 a2 t164 x62_14 = some r) ∧ Aside0 (kq ≤ kj4) ∧ Aside0 (Below w.heap.size w wc))
        case first =>
          have H := HC15.out
          clear HC15
          replace H := Option.bind_eq_some_iff.mp H
          obtain ⟨t165, A170, H⟩ := H
          replace H : ((modes_Fits.f kj4 a1 a0).bind fun t166 => (if (t165 != t166) = true then (postelaw10_ModesLaws.j1 kj4 a0 a1 a2 t164 true) else ((modes_Covers.f kj4 a0 a1).bind fun t167 => (if t167 = true then ((modes_Fits.f kj4 a0 a2).bind fun t168 => (if t168 = true then ((modes_Fits.f kj4 a1 a2).bind fun t169 => (postelaw10_ModesLaws.j1 kj4 a0 a1 a2 t164 (!t169))) else (postelaw10_ModesLaws.j1 kj4 a0 a1 a2 t164 false))) else (postelaw10_ModesLaws.j1 kj4 a0 a1 a2 t164 false))))) = some r := H
          have A17 := Aside0.mk A170
          clear A170
          replace H := Option.bind_eq_some_iff.mp H
          obtain ⟨t166, A180, H⟩ := H
          replace H : (if (t165 != t166) = true then (postelaw10_ModesLaws.j1 kj4 a0 a1 a2 t164 true) else ((modes_Covers.f kj4 a0 a1).bind fun t167 => (if t167 = true then ((modes_Fits.f kj4 a0 a2).bind fun t168 => (if t168 = true then ((modes_Fits.f kj4 a1 a2).bind fun t169 => (postelaw10_ModesLaws.j1 kj4 a0 a1 a2 t164 (!t169))) else (postelaw10_ModesLaws.j1 kj4 a0 a1 a2 t164 false))) else (postelaw10_ModesLaws.j1 kj4 a0 a1 a2 t164 false)))) = some r := H
          have A18 := Aside0.mk A180
          clear A180
          by_cases c19 : (t165 != t166) = true
          · rw [if_pos c19] at H
            have c19b0 : (t165 != t166) = true := c19
            (try (have c19b1 : decide (t165 = t166) = false := by simpa using c19))
            (try (have c19b2 : (t165 == t166) = false := by simpa using c19))
            (try (have c19b3 : ¬ (t165 = t166) := by simpa using c19))
            clear c19
            (first | rw [c19b0] | (simp only [i64_w, i32_w]; rw [c19b0]) | skip)
            have H' := Aside0.mk H
            clear H
            go_wp2_with (first | ((with_reducible refine gate_callee (f := 35) rfl ?_); refine goesL_ (some 42) rfl rfl Try.func35 (by kernel_rfl) rfl #[.int .i64 a0, .int .i64 a1] rfl (by (try simp only [List.map_toArray, List.map_cons, List.map_nil]); first | done | rfl | (simp only [List.length_drop, List.length_take]; rfl)) ?_; (with_reducible refine (modes_Fits.calls kj4 a0 a1 t165 _ A17.out).mono ?_); rintro e w20 ⟨rfl, hb⟩; refine ⟨_, rfl, ?_⟩; have n0_ := Aside0.mk (below_step (by repeat (first | (with_reducible first | exact HB.out | apply below_alloc | apply pw_below_drewN | apply below_drew1) | exact HB.out)) hb); clear HB; have HB := n0_; clear n0_; (try clear hb); (try clear hb2); (try clear hk); (try clear hi)) | ((with_reducible refine gate_callee (f := 35) rfl ?_); refine goesL_ (some 45) rfl rfl Try.func35 (by kernel_rfl) rfl #[.int .i64 a1, .int .i64 a0] rfl (by (try simp only [List.map_toArray, List.map_cons, List.map_nil]); first | done | rfl | (simp only [List.length_drop, List.length_take]; rfl)) ?_; (with_reducible refine (modes_Fits.calls kj4 a1 a0 t166 _ A18.out).mono ?_); rintro e w21 ⟨rfl, hb⟩; refine ⟨_, rfl, ?_⟩; have n0_ := Aside0.mk (below_step (by repeat (first | (with_reducible first | exact HB.out | apply below_alloc | apply pw_below_drewN | apply below_drew1) | exact HB.out)) hb); clear HB; have HB := n0_; clear n0_; (try clear hb); (try clear hb2); (try clear hk); (try clear hi)))
            go_meet
            case rel => exact ⟨_, (true), (by first | rfl | (simp; done) | (simp [*]; done)), H', ⟨by have := HJ4.out; first | omega | exact Nat.le_refl _⟩, ⟨by repeat (first | (with_reducible first | exact HB.out | apply below_alloc | apply pw_below_drewN | apply below_drew1) | exact HB.out)⟩⟩
          · rw [if_neg c19] at H
            have c19b0 : (t165 != t166) = false := by simpa using c19
            (try (have c19b1 : decide (t165 = t166) = true := by simpa using c19))
            (try (have c19b2 : (t165 == t166) = true := by simpa using c19))
            clear c19
            (first | rw [c19b0] | (simp only [i64_w, i32_w]; rw [c19b0]) | skip)
            replace H := Option.bind_eq_some_iff.mp H
            obtain ⟨t167, A220, H⟩ := H
            replace H : (if t167 = true then ((modes_Fits.f kj4 a0 a2).bind fun t168 => (if t168 = true then ((modes_Fits.f kj4 a1 a2).bind fun t169 => (postelaw10_ModesLaws.j1 kj4 a0 a1 a2 t164 (!t169))) else (postelaw10_ModesLaws.j1 kj4 a0 a1 a2 t164 false))) else (postelaw10_ModesLaws.j1 kj4 a0 a1 a2 t164 false)) = some r := H
            have A22 := Aside0.mk A220
            clear A220
            by_cases c23 : t167 = true
            · subst c23
              have H1 : ((modes_Fits.f kj4 a0 a2).bind fun t168 => (if t168 = true then ((modes_Fits.f kj4 a1 a2).bind fun t169 => (postelaw10_ModesLaws.j1 kj4 a0 a1 a2 t164 (!t169))) else (postelaw10_ModesLaws.j1 kj4 a0 a1 a2 t164 false))) = some r := by rw [if_pos rfl] at H; exact H
              clear H
              have H := H1
              clear H1
              replace H := Option.bind_eq_some_iff.mp H
              obtain ⟨t168, A240, H⟩ := H
              replace H : (if t168 = true then ((modes_Fits.f kj4 a1 a2).bind fun t169 => (postelaw10_ModesLaws.j1 kj4 a0 a1 a2 t164 (!t169))) else (postelaw10_ModesLaws.j1 kj4 a0 a1 a2 t164 false)) = some r := H
              have A24 := Aside0.mk A240
              clear A240
              by_cases c25 : t168 = true
              · subst c25
                have H1 : ((modes_Fits.f kj4 a1 a2).bind fun t169 => (postelaw10_ModesLaws.j1 kj4 a0 a1 a2 t164 (!t169))) = some r := by rw [if_pos rfl] at H; exact H
                clear H
                have H := H1
                clear H1
                replace H := Option.bind_eq_some_iff.mp H
                obtain ⟨t169, A260, H⟩ := H
                replace H : (postelaw10_ModesLaws.j1 kj4 a0 a1 a2 t164 (!t169)) = some r := H
                have A26 := Aside0.mk A260
                clear A260
                have H' := Aside0.mk H
                clear H
                go_wp2_with (first | ((with_reducible refine gate_callee (f := 35) rfl ?_); refine goesL_ (some 42) rfl rfl Try.func35 (by kernel_rfl) rfl #[.int .i64 a0, .int .i64 a1] rfl (by (try simp only [List.map_toArray, List.map_cons, List.map_nil]); first | done | rfl | (simp only [List.length_drop, List.length_take]; rfl)) ?_; (with_reducible refine (modes_Fits.calls kj4 a0 a1 t165 _ A17.out).mono ?_); rintro e w27 ⟨rfl, hb⟩; refine ⟨_, rfl, ?_⟩; have n0_ := Aside0.mk (below_step (by repeat (first | (with_reducible first | exact HB.out | apply below_alloc | apply pw_below_drewN | apply below_drew1) | exact HB.out)) hb); clear HB; have HB := n0_; clear n0_; (try clear hb); (try clear hb2); (try clear hk); (try clear hi)) | ((with_reducible refine gate_callee (f := 35) rfl ?_); refine goesL_ (some 45) rfl rfl Try.func35 (by kernel_rfl) rfl #[.int .i64 a1, .int .i64 a0] rfl (by (try simp only [List.map_toArray, List.map_cons, List.map_nil]); first | done | rfl | (simp only [List.length_drop, List.length_take]; rfl)) ?_; (with_reducible refine (modes_Fits.calls kj4 a1 a0 t166 _ A18.out).mono ?_); rintro e w28 ⟨rfl, hb⟩; refine ⟨_, rfl, ?_⟩; have n0_ := Aside0.mk (below_step (by repeat (first | (with_reducible first | exact HB.out | apply below_alloc | apply pw_below_drewN | apply below_drew1) | exact HB.out)) hb); clear HB; have HB := n0_; clear n0_; (try clear hb); (try clear hb2); (try clear hk); (try clear hi)) | (go_at_call 36; (with_reducible refine (modes_Covers.calls kj4 a0 a1 true _ A22.out).mono ?_); rintro e w29 ⟨rfl, hb⟩; have n0_ := Aside0.mk (below_step (by repeat (first | (with_reducible first | exact HB.out | apply below_alloc | apply pw_below_drewN | apply below_drew1) | exact HB.out)) hb); clear HB; have HB := n0_; clear n0_; (try clear hb); (try clear hb2); (try clear hk); (try clear hi)) | (go_at_call 35; (with_reducible refine (modes_Fits.calls kj4 a0 a2 true _ A24.out).mono ?_); rintro e w30 ⟨rfl, hb⟩; have n0_ := Aside0.mk (below_step (by repeat (first | (with_reducible first | exact HB.out | apply below_alloc | apply pw_below_drewN | apply below_drew1) | exact HB.out)) hb); clear HB; have HB := n0_; clear n0_; (try clear hb); (try clear hb2); (try clear hk); (try clear hi)) | (go_at_call 35; (with_reducible refine (modes_Fits.calls kj4 a1 a2 t169 _ A26.out).mono ?_); rintro e w31 ⟨rfl, hb⟩; have n0_ := Aside0.mk (below_step (by repeat (first | (with_reducible first | exact HB.out | apply below_alloc | apply pw_below_drewN | apply below_drew1) | exact HB.out)) hb); clear HB; have HB := n0_; clear n0_; (try clear hb); (try clear hb2); (try clear hk); (try clear hi)))
                go_meet
                case rel => exact ⟨_, (!t169), (by first | rfl | (simp; done) | (simp [*]; done)), H', ⟨by have := HJ4.out; first | omega | exact Nat.le_refl _⟩, ⟨by repeat (first | (with_reducible first | exact HB.out | apply below_alloc | apply pw_below_drewN | apply below_drew1) | exact HB.out)⟩⟩
              · replace c25 := Bool.eq_false_iff.mpr c25
                subst c25
                have H1 : (postelaw10_ModesLaws.j1 kj4 a0 a1 a2 t164 false) = some r := by rw [if_neg (show ¬ (false = true) by decide)] at H; exact H
                clear H
                have H := H1
                clear H1
                have H' := Aside0.mk H
                clear H
                go_wp2_with (first | ((with_reducible refine gate_callee (f := 35) rfl ?_); refine goesL_ (some 42) rfl rfl Try.func35 (by kernel_rfl) rfl #[.int .i64 a0, .int .i64 a1] rfl (by (try simp only [List.map_toArray, List.map_cons, List.map_nil]); first | done | rfl | (simp only [List.length_drop, List.length_take]; rfl)) ?_; (with_reducible refine (modes_Fits.calls kj4 a0 a1 t165 _ A17.out).mono ?_); rintro e w32 ⟨rfl, hb⟩; refine ⟨_, rfl, ?_⟩; have n0_ := Aside0.mk (below_step (by repeat (first | (with_reducible first | exact HB.out | apply below_alloc | apply pw_below_drewN | apply below_drew1) | exact HB.out)) hb); clear HB; have HB := n0_; clear n0_; (try clear hb); (try clear hb2); (try clear hk); (try clear hi)) | ((with_reducible refine gate_callee (f := 35) rfl ?_); refine goesL_ (some 45) rfl rfl Try.func35 (by kernel_rfl) rfl #[.int .i64 a1, .int .i64 a0] rfl (by (try simp only [List.map_toArray, List.map_cons, List.map_nil]); first | done | rfl | (simp only [List.length_drop, List.length_take]; rfl)) ?_; (with_reducible refine (modes_Fits.calls kj4 a1 a0 t166 _ A18.out).mono ?_); rintro e w33 ⟨rfl, hb⟩; refine ⟨_, rfl, ?_⟩; have n0_ := Aside0.mk (below_step (by repeat (first | (with_reducible first | exact HB.out | apply below_alloc | apply pw_below_drewN | apply below_drew1) | exact HB.out)) hb); clear HB; have HB := n0_; clear n0_; (try clear hb); (try clear hb2); (try clear hk); (try clear hi)) | (go_at_call 36; (with_reducible refine (modes_Covers.calls kj4 a0 a1 true _ A22.out).mono ?_); rintro e w34 ⟨rfl, hb⟩; have n0_ := Aside0.mk (below_step (by repeat (first | (with_reducible first | exact HB.out | apply below_alloc | apply pw_below_drewN | apply below_drew1) | exact HB.out)) hb); clear HB; have HB := n0_; clear n0_; (try clear hb); (try clear hb2); (try clear hk); (try clear hi)) | (go_at_call 35; (with_reducible refine (modes_Fits.calls kj4 a0 a2 false _ A24.out).mono ?_); rintro e w35 ⟨rfl, hb⟩; have n0_ := Aside0.mk (below_step (by repeat (first | (with_reducible first | exact HB.out | apply below_alloc | apply pw_below_drewN | apply below_drew1) | exact HB.out)) hb); clear HB; have HB := n0_; clear n0_; (try clear hb); (try clear hb2); (try clear hk); (try clear hi)))
                go_meet
                case rel => exact ⟨_, (false), (by first | rfl | (simp; done) | (simp [*]; done)), H', ⟨by have := HJ4.out; first | omega | exact Nat.le_refl _⟩, ⟨by repeat (first | (with_reducible first | exact HB.out | apply below_alloc | apply pw_below_drewN | apply below_drew1) | exact HB.out)⟩⟩
            · replace c23 := Bool.eq_false_iff.mpr c23
              subst c23
              have H1 : (postelaw10_ModesLaws.j1 kj4 a0 a1 a2 t164 false) = some r := by rw [if_neg (show ¬ (false = true) by decide)] at H; exact H
              clear H
              have H := H1
              clear H1
              have H' := Aside0.mk H
              clear H
              go_wp2_with (first | ((with_reducible refine gate_callee (f := 35) rfl ?_); refine goesL_ (some 42) rfl rfl Try.func35 (by kernel_rfl) rfl #[.int .i64 a0, .int .i64 a1] rfl (by (try simp only [List.map_toArray, List.map_cons, List.map_nil]); first | done | rfl | (simp only [List.length_drop, List.length_take]; rfl)) ?_; (with_reducible refine (modes_Fits.calls kj4 a0 a1 t165 _ A17.out).mono ?_); rintro e w36 ⟨rfl, hb⟩; refine ⟨_, rfl, ?_⟩; have n0_ := Aside0.mk (below_step (by repeat (first | (with_reducible first | exact HB.out | apply below_alloc | apply pw_below_drewN | apply below_drew1) | exact HB.out)) hb); clear HB; have HB := n0_; clear n0_; (try clear hb); (try clear hb2); (try clear hk); (try clear hi)) | ((with_reducible refine gate_callee (f := 35) rfl ?_); refine goesL_ (some 45) rfl rfl Try.func35 (by kernel_rfl) rfl #[.int .i64 a1, .int .i64 a0] rfl (by (try simp only [List.map_toArray, List.map_cons, List.map_nil]); first | done | rfl | (simp only [List.length_drop, List.length_take]; rfl)) ?_; (with_reducible refine (modes_Fits.calls kj4 a1 a0 t166 _ A18.out).mono ?_); rintro e w37 ⟨rfl, hb⟩; refine ⟨_, rfl, ?_⟩; have n0_ := Aside0.mk (below_step (by repeat (first | (with_reducible first | exact HB.out | apply below_alloc | apply pw_below_drewN | apply below_drew1) | exact HB.out)) hb); clear HB; have HB := n0_; clear n0_; (try clear hb); (try clear hb2); (try clear hk); (try clear hi)) | (go_at_call 36; (with_reducible refine (modes_Covers.calls kj4 a0 a1 false _ A22.out).mono ?_); rintro e w38 ⟨rfl, hb⟩; have n0_ := Aside0.mk (below_step (by repeat (first | (with_reducible first | exact HB.out | apply below_alloc | apply pw_below_drewN | apply below_drew1) | exact HB.out)) hb); clear HB; have HB := n0_; clear n0_; (try clear hb); (try clear hb2); (try clear hk); (try clear hi)))
              go_meet
              case rel => exact ⟨_, (false), (by first | rfl | (simp; done) | (simp [*]; done)), H', ⟨by have := HJ4.out; first | omega | exact Nat.le_refl _⟩, ⟨by repeat (first | (with_reducible first | exact HB.out | apply below_alloc | apply pw_below_drewN | apply below_drew1) | exact HB.out)⟩⟩
        case rest =>
          clear HC15
          try clear c1
          try clear c2
          try clear p2
          try clear c3
          try clear c7
          try clear c8
          try clear c8b0
          try clear c9
          try clear c9b0
          try clear c10
          try clear c10b0
          try clear c11
          try clear c11b0
          try clear c12
          try clear c12b0
          try clear c13
          try clear c19
          try clear c19b0
          try clear c19b1
          try clear c19b2
          try clear c23
          try clear c25
          try clear c33
          try clear c34
          try clear c35
          try clear p2
          obtain ⟨kq, x62_14, rfl, HA, HJ14, HB⟩ := hcut
          cases kq with
          | zero => exact absurd HA.out (by simp [postelaw10_ModesLaws.j1])
          | succ kj14 =>
            have H := HA.out
            clear HA
            simp only [postelaw10_ModesLaws.j1] at H
            by_cases c39 : x62_14 = true
            · subst c39
              have H1 : (some false) = some r := by rw [if_pos rfl] at H; exact H
              clear H
              have H := H1
              clear H1
              obtain rfl := Option.some.inj H
              go_wp2
              go_ret
              exact ⟨by first | rfl | (simp [errW_none, errW_some] <;> rfl) | (simp [*, errW_none, errW_some] <;> rfl), by repeat (first | (with_reducible first | exact HB.out | apply below_alloc | apply pw_below_drewN | apply below_drew1) | exact HB.out)⟩
            · replace c39 := Bool.eq_false_iff.mpr c39
              subst c39
              have H1 : ((modes_Covers.f kj14 t164 a0).bind fun t170 => (if t170 = true then ((modes_Covers.f kj14 t164 a1).bind fun t171 => (if t171 = true then ((modes_Join.f kj14 a1 a0).bind fun t172 => (if t172 = t164 then ((modes_Join.f kj14 a0 a0).bind fun t173 => (postelaw10_ModesLaws.j2 kj14 a0 a1 a2 t164 (t173 != a0))) else (postelaw10_ModesLaws.j2 kj14 a0 a1 a2 t164 true))) else (postelaw10_ModesLaws.j2 kj14 a0 a1 a2 t164 true))) else (postelaw10_ModesLaws.j2 kj14 a0 a1 a2 t164 true))) = some r := by rw [if_neg (show ¬ (false = true) by decide)] at H; exact H
              clear H
              have H := H1
              clear H1
              have HC40 := Aside0.mk H
              clear H
              go_upto_region 7 with (fail)
              go_cut [86] (fun v86 wc => ∃ (kq : Nat) (x86_39 : Bool), v86 = .bool x86_39 ∧ Aside0 (postelaw10_ModesLaws.j2 kq a0 a1 a2 t164 x86_39 = some r) ∧ Aside0 (kq ≤ kj14) ∧ Aside0 (Below w.heap.size w wc))
              case first =>
                have H := HC40.out
                clear HC40
                replace H := Option.bind_eq_some_iff.mp H
                obtain ⟨t170, A410, H⟩ := H
                replace H : (if t170 = true then ((modes_Covers.f kj14 t164 a1).bind fun t171 => (if t171 = true then ((modes_Join.f kj14 a1 a0).bind fun t172 => (if t172 = t164 then ((modes_Join.f kj14 a0 a0).bind fun t173 => (postelaw10_ModesLaws.j2 kj14 a0 a1 a2 t164 (t173 != a0))) else (postelaw10_ModesLaws.j2 kj14 a0 a1 a2 t164 true))) else (postelaw10_ModesLaws.j2 kj14 a0 a1 a2 t164 true))) else (postelaw10_ModesLaws.j2 kj14 a0 a1 a2 t164 true)) = some r := H
                have A41 := Aside0.mk A410
                clear A410
                by_cases c42 : t170 = true
                · subst c42
                  have H1 : ((modes_Covers.f kj14 t164 a1).bind fun t171 => (if t171 = true then ((modes_Join.f kj14 a1 a0).bind fun t172 => (if t172 = t164 then ((modes_Join.f kj14 a0 a0).bind fun t173 => (postelaw10_ModesLaws.j2 kj14 a0 a1 a2 t164 (t173 != a0))) else (postelaw10_ModesLaws.j2 kj14 a0 a1 a2 t164 true))) else (postelaw10_ModesLaws.j2 kj14 a0 a1 a2 t164 true))) = some r := by rw [if_pos rfl] at H; exact H
                  clear H
                  have H := H1
                  clear H1
                  replace H := Option.bind_eq_some_iff.mp H
                  obtain ⟨t171, A430, H⟩ := H
                  replace H : (if t171 = true then ((modes_Join.f kj14 a1 a0).bind fun t172 => (if t172 = t164 then ((modes_Join.f kj14 a0 a0).bind fun t173 => (postelaw10_ModesLaws.j2 kj14 a0 a1 a2 t164 (t173 != a0))) else (postelaw10_ModesLaws.j2 kj14 a0 a1 a2 t164 true))) else (postelaw10_ModesLaws.j2 kj14 a0 a1 a2 t164 true)) = some r := H
                  have A43 := Aside0.mk A430
                  clear A430
                  by_cases c44 : t171 = true
                  · subst c44
                    have H1 : ((modes_Join.f kj14 a1 a0).bind fun t172 => (if t172 = t164 then ((modes_Join.f kj14 a0 a0).bind fun t173 => (postelaw10_ModesLaws.j2 kj14 a0 a1 a2 t164 (t173 != a0))) else (postelaw10_ModesLaws.j2 kj14 a0 a1 a2 t164 true))) = some r := by rw [if_pos rfl] at H; exact H
                    clear H
                    have H := H1
                    clear H1
                    replace H := Option.bind_eq_some_iff.mp H
                    obtain ⟨t172, A450, H⟩ := H
                    replace H : (if t172 = t164 then ((modes_Join.f kj14 a0 a0).bind fun t173 => (postelaw10_ModesLaws.j2 kj14 a0 a1 a2 t164 (t173 != a0))) else (postelaw10_ModesLaws.j2 kj14 a0 a1 a2 t164 true)) = some r := H
                    have A45 := Aside0.mk A450
                    clear A450
                    by_cases c46 : t172 = t164
                    · rw [if_pos c46] at H
                      have c46b0 : (t172 == t164) = true := beq_iff_eq.mpr c46
                      have c46b1 : (t172 != t164) = false := bne_eq_false_iff_eq.mpr c46
                      clear c46
                      (first | rw [c46b0] | (simp only [i64_w, i32_w]; rw [c46b0]) | skip)
                      replace H := Option.bind_eq_some_iff.mp H
                      obtain ⟨t173, A470, H⟩ := H
                      replace H : (postelaw10_ModesLaws.j2 kj14 a0 a1 a2 t164 (t173 != a0)) = some r := H
                      have A47 := Aside0.mk A470
                      clear A470
                      have H' := Aside0.mk H
                      clear H
                      go_wp2_with (first | ((with_reducible refine gate_callee (f := 36) rfl ?_); refine goesL_ (some 65) rfl rfl Try.func36 (by kernel_rfl) rfl #[.int .i64 t164, .int .i64 a0] rfl (by (try simp only [List.map_toArray, List.map_cons, List.map_nil]); first | done | rfl | (simp only [List.length_drop, List.length_take]; rfl)) ?_; (with_reducible refine (modes_Covers.calls kj14 t164 a0 true _ A41.out).mono ?_); rintro e w48 ⟨rfl, hb⟩; refine ⟨_, rfl, ?_⟩; have n0_ := Aside0.mk (below_step (by repeat (first | (with_reducible first | exact HB.out | apply below_alloc | apply pw_below_drewN | apply below_drew1) | exact HB.out)) hb); clear HB; have HB := n0_; clear n0_; (try clear hb); (try clear hb2); (try clear hk); (try clear hi)) | (go_at_call 36; (with_reducible refine (modes_Covers.calls kj14 t164 a1 true _ A43.out).mono ?_); rintro e w49 ⟨rfl, hb⟩; have n0_ := Aside0.mk (below_step (by repeat (first | (with_reducible first | exact HB.out | apply below_alloc | apply pw_below_drewN | apply below_drew1) | exact HB.out)) hb); clear HB; have HB := n0_; clear n0_; (try clear hb); (try clear hb2); (try clear hk); (try clear hi)) | (go_at_call 34; (with_reducible refine (modes_Join.calls kj14 a1 a0 t172 _ A45.out).mono ?_); rintro e w50 ⟨rfl, hb⟩; have n0_ := Aside0.mk (below_step (by repeat (first | (with_reducible first | exact HB.out | apply below_alloc | apply pw_below_drewN | apply below_drew1) | exact HB.out)) hb); clear HB; have HB := n0_; clear n0_; (try clear hb); (try clear hb2); (try clear hk); (try clear hi)) | (go_at_call 34; (with_reducible refine (modes_Join.calls kj14 a0 a0 t173 _ A47.out).mono ?_); rintro e w51 ⟨rfl, hb⟩; have n0_ := Aside0.mk (below_step (by repeat (first | (with_reducible first | exact HB.out | apply below_alloc | apply pw_below_drewN | apply below_drew1) | exact HB.out)) hb); clear HB; have HB := n0_; clear n0_; (try clear hb); (try clear hb2); (try clear hk); (try clear hi)))
                      go_meet
                      case rel => exact ⟨_, ((t173 != a0)), (by first | rfl | (simp; done) | (simp [*]; done)), H', ⟨by have := HJ4.out; have := HJ14.out; first | omega | exact Nat.le_refl _⟩, ⟨by repeat (first | (with_reducible first | exact HB.out | apply below_alloc | apply pw_below_drewN | apply below_drew1) | exact HB.out)⟩⟩
                    · rw [if_neg c46] at H
                      have c46b0 : (t172 == t164) = false := beq_eq_false_iff_ne.mpr c46
                      have c46b1 : (t172 != t164) = true := bne_iff_ne.mpr c46
                      (first | rw [c46b0] | (simp only [i64_w, i32_w]; rw [c46b0]) | skip)
                      have H' := Aside0.mk H
                      clear H
                      go_wp2_with (first | ((with_reducible refine gate_callee (f := 36) rfl ?_); refine goesL_ (some 65) rfl rfl Try.func36 (by kernel_rfl) rfl #[.int .i64 t164, .int .i64 a0] rfl (by (try simp only [List.map_toArray, List.map_cons, List.map_nil]); first | done | rfl | (simp only [List.length_drop, List.length_take]; rfl)) ?_; (with_reducible refine (modes_Covers.calls kj14 t164 a0 true _ A41.out).mono ?_); rintro e w52 ⟨rfl, hb⟩; refine ⟨_, rfl, ?_⟩; have n0_ := Aside0.mk (below_step (by repeat (first | (with_reducible first | exact HB.out | apply below_alloc | apply pw_below_drewN | apply below_drew1) | exact HB.out)) hb); clear HB; have HB := n0_; clear n0_; (try clear hb); (try clear hb2); (try clear hk); (try clear hi)) | (go_at_call 36; (with_reducible refine (modes_Covers.calls kj14 t164 a1 true _ A43.out).mono ?_); rintro e w53 ⟨rfl, hb⟩; have n0_ := Aside0.mk (below_step (by repeat (first | (with_reducible first | exact HB.out | apply below_alloc | apply pw_below_drewN | apply below_drew1) | exact HB.out)) hb); clear HB; have HB := n0_; clear n0_; (try clear hb); (try clear hb2); (try clear hk); (try clear hi)) | (go_at_call 34; (with_reducible refine (modes_Join.calls kj14 a1 a0 t172 _ A45.out).mono ?_); rintro e w54 ⟨rfl, hb⟩; have n0_ := Aside0.mk (below_step (by repeat (first | (with_reducible first | exact HB.out | apply below_alloc | apply pw_below_drewN | apply below_drew1) | exact HB.out)) hb); clear HB; have HB := n0_; clear n0_; (try clear hb); (try clear hb2); (try clear hk); (try clear hi)))
                      go_meet
                      case rel => exact ⟨_, (true), (by first | rfl | (simp; done) | (simp [*]; done)), H', ⟨by have := HJ4.out; have := HJ14.out; first | omega | exact Nat.le_refl _⟩, ⟨by repeat (first | (with_reducible first | exact HB.out | apply below_alloc | apply pw_below_drewN | apply below_drew1) | exact HB.out)⟩⟩
                  · replace c44 := Bool.eq_false_iff.mpr c44
                    subst c44
                    have H1 : (postelaw10_ModesLaws.j2 kj14 a0 a1 a2 t164 true) = some r := by rw [if_neg (show ¬ (false = true) by decide)] at H; exact H
                    clear H
                    have H := H1
                    clear H1
                    have H' := Aside0.mk H
                    clear H
                    go_wp2_with (first | ((with_reducible refine gate_callee (f := 36) rfl ?_); refine goesL_ (some 65) rfl rfl Try.func36 (by kernel_rfl) rfl #[.int .i64 t164, .int .i64 a0] rfl (by (try simp only [List.map_toArray, List.map_cons, List.map_nil]); first | done | rfl | (simp only [List.length_drop, List.length_take]; rfl)) ?_; (with_reducible refine (modes_Covers.calls kj14 t164 a0 true _ A41.out).mono ?_); rintro e w55 ⟨rfl, hb⟩; refine ⟨_, rfl, ?_⟩; have n0_ := Aside0.mk (below_step (by repeat (first | (with_reducible first | exact HB.out | apply below_alloc | apply pw_below_drewN | apply below_drew1) | exact HB.out)) hb); clear HB; have HB := n0_; clear n0_; (try clear hb); (try clear hb2); (try clear hk); (try clear hi)) | (go_at_call 36; (with_reducible refine (modes_Covers.calls kj14 t164 a1 false _ A43.out).mono ?_); rintro e w56 ⟨rfl, hb⟩; have n0_ := Aside0.mk (below_step (by repeat (first | (with_reducible first | exact HB.out | apply below_alloc | apply pw_below_drewN | apply below_drew1) | exact HB.out)) hb); clear HB; have HB := n0_; clear n0_; (try clear hb); (try clear hb2); (try clear hk); (try clear hi)))
                    go_meet
                    case rel => exact ⟨_, (true), (by first | rfl | (simp; done) | (simp [*]; done)), H', ⟨by have := HJ4.out; have := HJ14.out; first | omega | exact Nat.le_refl _⟩, ⟨by repeat (first | (with_reducible first | exact HB.out | apply below_alloc | apply pw_below_drewN | apply below_drew1) | exact HB.out)⟩⟩
                · replace c42 := Bool.eq_false_iff.mpr c42
                  subst c42
                  have H1 : (postelaw10_ModesLaws.j2 kj14 a0 a1 a2 t164 true) = some r := by rw [if_neg (show ¬ (false = true) by decide)] at H; exact H
                  clear H
                  have H := H1
                  clear H1
                  have H' := Aside0.mk H
                  clear H
                  go_wp2_with (first | ((with_reducible refine gate_callee (f := 36) rfl ?_); refine goesL_ (some 65) rfl rfl Try.func36 (by kernel_rfl) rfl #[.int .i64 t164, .int .i64 a0] rfl (by (try simp only [List.map_toArray, List.map_cons, List.map_nil]); first | done | rfl | (simp only [List.length_drop, List.length_take]; rfl)) ?_; (with_reducible refine (modes_Covers.calls kj14 t164 a0 false _ A41.out).mono ?_); rintro e w57 ⟨rfl, hb⟩; refine ⟨_, rfl, ?_⟩; have n0_ := Aside0.mk (below_step (by repeat (first | (with_reducible first | exact HB.out | apply below_alloc | apply pw_below_drewN | apply below_drew1) | exact HB.out)) hb); clear HB; have HB := n0_; clear n0_; (try clear hb); (try clear hb2); (try clear hk); (try clear hi)))
                  go_meet
                  case rel => exact ⟨_, (true), (by first | rfl | (simp; done) | (simp [*]; done)), H', ⟨by have := HJ4.out; have := HJ14.out; first | omega | exact Nat.le_refl _⟩, ⟨by repeat (first | (with_reducible first | exact HB.out | apply below_alloc | apply pw_below_drewN | apply below_drew1) | exact HB.out)⟩⟩
              case rest =>
                clear HC40
                try clear c1
                try clear c2
                try clear p2
                try clear c3
                try clear c4
                try clear c7
                try clear c8
                try clear c8b0
                try clear c9
                try clear c9b0
                try clear c10
                try clear c10b0
                try clear c11
                try clear c11b0
                try clear c12
                try clear c12b0
                try clear c13
                try clear c19
                try clear c19b0
                try clear c19b1
                try clear c19b2
                try clear c23
                try clear c25
                try clear c33
                try clear c34
                try clear c35
                try clear c36
                try clear c39
                try clear c42
                try clear c44
                try clear c46
                try clear c46b0
                try clear c46b1
                try clear p2
                obtain ⟨kq, x86_39, rfl, HA, HJ39, HB⟩ := hcut
                cases kq with
                | zero => exact absurd HA.out (by simp [postelaw10_ModesLaws.j2])
                | succ kj39 =>
                  have H := HA.out
                  clear HA
                  simp only [postelaw10_ModesLaws.j2] at H
                  by_cases c58 : x86_39 = true
                  · subst c58
                    have H1 : (some false) = some r := by rw [if_pos rfl] at H; exact H
                    clear H
                    have H := H1
                    clear H1
                    obtain rfl := Option.some.inj H
                    go_wp2
                    go_ret
                    exact ⟨by first | rfl | (simp [errW_none, errW_some] <;> rfl) | (simp [*, errW_none, errW_some] <;> rfl), by repeat (first | (with_reducible first | exact HB.out | apply below_alloc | apply pw_below_drewN | apply below_drew1) | exact HB.out)⟩
                  · replace c58 := Bool.eq_false_iff.mpr c58
                    subst c58
                    have H1 : ((modes_Covers.f kj39 a2 a0).bind fun t174 => (if t174 = true then ((modes_Covers.f kj39 a2 a1).bind fun t175 => (if t175 = true then ((modes_Covers.f kj39 a2 t164).bind fun t176 => (postelaw10_ModesLaws.j3 kj39 a0 a1 (!t176))) else (postelaw10_ModesLaws.j3 kj39 a0 a1 false))) else (postelaw10_ModesLaws.j3 kj39 a0 a1 false))) = some r := by rw [if_neg (show ¬ (false = true) by decide)] at H; exact H
                    clear H
                    have H := H1
                    clear H1
                    have HC59 := Aside0.mk H
                    clear H
                    go_upto_region 9 with (fail)
                    go_cut [100] (fun v100 wc => ∃ (kq : Nat) (x100_58 : Bool), v100 = .bool x100_58 ∧ Aside0 (postelaw10_ModesLaws.j3 kq a0 a1 x100_58 = some r) ∧ Aside0 (kq ≤ kj39) ∧ Aside0 (Below w.heap.size w wc))
                    case first =>
                      have H := HC59.out
                      clear HC59
                      replace H := Option.bind_eq_some_iff.mp H
                      obtain ⟨t174, A600, H⟩ := H
                      replace H : (if t174 = true then ((modes_Covers.f kj39 a2 a1).bind fun t175 => (if t175 = true then ((modes_Covers.f kj39 a2 t164).bind fun t176 => (postelaw10_ModesLaws.j3 kj39 a0 a1 (!t176))) else (postelaw10_ModesLaws.j3 kj39 a0 a1 false))) else (postelaw10_ModesLaws.j3 kj39 a0 a1 false)) = some r := H
                      have A60 := Aside0.mk A600
                      clear A600
                      by_cases c61 : t174 = true
                      · subst c61
                        have H1 : ((modes_Covers.f kj39 a2 a1).bind fun t175 => (if t175 = true then ((modes_Covers.f kj39 a2 t164).bind fun t176 => (postelaw10_ModesLaws.j3 kj39 a0 a1 (!t176))) else (postelaw10_ModesLaws.j3 kj39 a0 a1 false))) = some r := by rw [if_pos rfl] at H; exact H
                        clear H
                        have H := H1
                        clear H1
                        replace H := Option.bind_eq_some_iff.mp H
                        obtain ⟨t175, A620, H⟩ := H
                        replace H : (if t175 = true then ((modes_Covers.f kj39 a2 t164).bind fun t176 => (postelaw10_ModesLaws.j3 kj39 a0 a1 (!t176))) else (postelaw10_ModesLaws.j3 kj39 a0 a1 false)) = some r := H
                        have A62 := Aside0.mk A620
                        clear A620
                        by_cases c63 : t175 = true
                        · subst c63
                          have H1 : ((modes_Covers.f kj39 a2 t164).bind fun t176 => (postelaw10_ModesLaws.j3 kj39 a0 a1 (!t176))) = some r := by rw [if_pos rfl] at H; exact H
                          clear H
                          have H := H1
                          clear H1
                          replace H := Option.bind_eq_some_iff.mp H
                          obtain ⟨t176, A640, H⟩ := H
                          replace H : (postelaw10_ModesLaws.j3 kj39 a0 a1 (!t176)) = some r := H
                          have A64 := Aside0.mk A640
                          clear A640
                          have H' := Aside0.mk H
                          clear H
                          go_wp2_with (first | ((with_reducible refine gate_callee (f := 36) rfl ?_); refine goesL_ (some 89) rfl rfl Try.func36 (by kernel_rfl) rfl #[.int .i64 a2, .int .i64 a0] rfl (by (try simp only [List.map_toArray, List.map_cons, List.map_nil]); first | done | rfl | (simp only [List.length_drop, List.length_take]; rfl)) ?_; (with_reducible refine (modes_Covers.calls kj39 a2 a0 true _ A60.out).mono ?_); rintro e w65 ⟨rfl, hb⟩; refine ⟨_, rfl, ?_⟩; have n0_ := Aside0.mk (below_step (by repeat (first | (with_reducible first | exact HB.out | apply below_alloc | apply pw_below_drewN | apply below_drew1) | exact HB.out)) hb); clear HB; have HB := n0_; clear n0_; (try clear hb); (try clear hb2); (try clear hk); (try clear hi)) | (go_at_call 36; (with_reducible refine (modes_Covers.calls kj39 a2 a1 true _ A62.out).mono ?_); rintro e w66 ⟨rfl, hb⟩; have n0_ := Aside0.mk (below_step (by repeat (first | (with_reducible first | exact HB.out | apply below_alloc | apply pw_below_drewN | apply below_drew1) | exact HB.out)) hb); clear HB; have HB := n0_; clear n0_; (try clear hb); (try clear hb2); (try clear hk); (try clear hi)) | (go_at_call 36; (with_reducible refine (modes_Covers.calls kj39 a2 t164 t176 _ A64.out).mono ?_); rintro e w67 ⟨rfl, hb⟩; have n0_ := Aside0.mk (below_step (by repeat (first | (with_reducible first | exact HB.out | apply below_alloc | apply pw_below_drewN | apply below_drew1) | exact HB.out)) hb); clear HB; have HB := n0_; clear n0_; (try clear hb); (try clear hb2); (try clear hk); (try clear hi)))
                          go_meet
                          case rel => exact ⟨_, (!t176), (by first | rfl | (simp; done) | (simp [*]; done)), H', ⟨by have := HJ4.out; have := HJ14.out; have := HJ39.out; first | omega | exact Nat.le_refl _⟩, ⟨by repeat (first | (with_reducible first | exact HB.out | apply below_alloc | apply pw_below_drewN | apply below_drew1) | exact HB.out)⟩⟩
                        · replace c63 := Bool.eq_false_iff.mpr c63
                          subst c63
                          have H1 : (postelaw10_ModesLaws.j3 kj39 a0 a1 false) = some r := by rw [if_neg (show ¬ (false = true) by decide)] at H; exact H
                          clear H
                          have H := H1
                          clear H1
                          have H' := Aside0.mk H
                          clear H
                          go_wp2_with (first | ((with_reducible refine gate_callee (f := 36) rfl ?_); refine goesL_ (some 89) rfl rfl Try.func36 (by kernel_rfl) rfl #[.int .i64 a2, .int .i64 a0] rfl (by (try simp only [List.map_toArray, List.map_cons, List.map_nil]); first | done | rfl | (simp only [List.length_drop, List.length_take]; rfl)) ?_; (with_reducible refine (modes_Covers.calls kj39 a2 a0 true _ A60.out).mono ?_); rintro e w68 ⟨rfl, hb⟩; refine ⟨_, rfl, ?_⟩; have n0_ := Aside0.mk (below_step (by repeat (first | (with_reducible first | exact HB.out | apply below_alloc | apply pw_below_drewN | apply below_drew1) | exact HB.out)) hb); clear HB; have HB := n0_; clear n0_; (try clear hb); (try clear hb2); (try clear hk); (try clear hi)) | (go_at_call 36; (with_reducible refine (modes_Covers.calls kj39 a2 a1 false _ A62.out).mono ?_); rintro e w69 ⟨rfl, hb⟩; have n0_ := Aside0.mk (below_step (by repeat (first | (with_reducible first | exact HB.out | apply below_alloc | apply pw_below_drewN | apply below_drew1) | exact HB.out)) hb); clear HB; have HB := n0_; clear n0_; (try clear hb); (try clear hb2); (try clear hk); (try clear hi)))
                          go_meet
                          case rel => exact ⟨_, (false), (by first | rfl | (simp; done) | (simp [*]; done)), H', ⟨by have := HJ4.out; have := HJ14.out; have := HJ39.out; first | omega | exact Nat.le_refl _⟩, ⟨by repeat (first | (with_reducible first | exact HB.out | apply below_alloc | apply pw_below_drewN | apply below_drew1) | exact HB.out)⟩⟩
                      · replace c61 := Bool.eq_false_iff.mpr c61
                        subst c61
                        have H1 : (postelaw10_ModesLaws.j3 kj39 a0 a1 false) = some r := by rw [if_neg (show ¬ (false = true) by decide)] at H; exact H
                        clear H
                        have H := H1
                        clear H1
                        have H' := Aside0.mk H
                        clear H
                        go_wp2_with (first | ((with_reducible refine gate_callee (f := 36) rfl ?_); refine goesL_ (some 89) rfl rfl Try.func36 (by kernel_rfl) rfl #[.int .i64 a2, .int .i64 a0] rfl (by (try simp only [List.map_toArray, List.map_cons, List.map_nil]); first | done | rfl | (simp only [List.length_drop, List.length_take]; rfl)) ?_; (with_reducible refine (modes_Covers.calls kj39 a2 a0 false _ A60.out).mono ?_); rintro e w70 ⟨rfl, hb⟩; refine ⟨_, rfl, ?_⟩; have n0_ := Aside0.mk (below_step (by repeat (first | (with_reducible first | exact HB.out | apply below_alloc | apply pw_below_drewN | apply below_drew1) | exact HB.out)) hb); clear HB; have HB := n0_; clear n0_; (try clear hb); (try clear hb2); (try clear hk); (try clear hi)))
                        go_meet
                        case rel => exact ⟨_, (false), (by first | rfl | (simp; done) | (simp [*]; done)), H', ⟨by have := HJ4.out; have := HJ14.out; have := HJ39.out; first | omega | exact Nat.le_refl _⟩, ⟨by repeat (first | (with_reducible first | exact HB.out | apply below_alloc | apply pw_below_drewN | apply below_drew1) | exact HB.out)⟩⟩
                    case rest =>
                      clear HC59
                      try clear c1
                      try clear c2
                      try clear p2
                      try clear c3
                      try clear c4
                      try clear c5
                      try clear c6
                      try clear c7
                      try clear c8
                      try clear c8b0
                      try clear c9
                      try clear c9b0
                      try clear c10
                      try clear c10b0
                      try clear c11
                      try clear c11b0
                      try clear c12
                      try clear c12b0
                      try clear c13
                      try clear c19
                      try clear c19b0
                      try clear c19b1
                      try clear c19b2
                      try clear c23
                      try clear c25
                      try clear c33
                      try clear c34
                      try clear c35
                      try clear c36
                      try clear c39
                      try clear c42
                      try clear c44
                      try clear c46
                      try clear c46b0
                      try clear c46b1
                      try clear c58
                      try clear c61
                      try clear c63
                      try clear p2
                      obtain ⟨kq, x100_58, rfl, HA, HJ58, HB⟩ := hcut
                      cases kq with
                      | zero => exact absurd HA.out (by simp [postelaw10_ModesLaws.j3])
                      | succ kj58 =>
                        have H := HA.out
                        clear HA
                        simp only [postelaw10_ModesLaws.j3] at H
                        by_cases c71 : x100_58 = true
                        · subst c71
                          have H1 : (some false) = some r := by rw [if_pos rfl] at H; exact H
                          clear H
                          have H := H1
                          clear H1
                          obtain rfl := Option.some.inj H
                          go_wp2
                          go_ret
                          exact ⟨by first | rfl | (simp [errW_none, errW_some] <;> rfl) | (simp [*, errW_none, errW_some] <;> rfl), by repeat (first | (with_reducible first | exact HB.out | apply below_alloc | apply pw_below_drewN | apply below_drew1) | exact HB.out)⟩
                        · replace c71 := Bool.eq_false_iff.mpr c71
                          subst c71
                          have H1 : ((modes_Covers.f kj58 a0 a1).bind fun t177 => (if t177 = true then ((modes_Covers.f kj58 a1 a0).bind fun t178 => (if t178 = true then (some (a0 == a1)) else (some true))) else (some true))) = some r := by rw [if_neg (show ¬ (false = true) by decide)] at H; exact H
                          clear H
                          have H := H1
                          clear H1
                          replace H := Option.bind_eq_some_iff.mp H
                          obtain ⟨t177, A720, H⟩ := H
                          replace H : (if t177 = true then ((modes_Covers.f kj58 a1 a0).bind fun t178 => (if t178 = true then (some (a0 == a1)) else (some true))) else (some true)) = some r := H
                          have A72 := Aside0.mk A720
                          clear A720
                          by_cases c73 : t177 = true
                          · subst c73
                            have H1 : ((modes_Covers.f kj58 a1 a0).bind fun t178 => (if t178 = true then (some (a0 == a1)) else (some true))) = some r := by rw [if_pos rfl] at H; exact H
                            clear H
                            have H := H1
                            clear H1
                            replace H := Option.bind_eq_some_iff.mp H
                            obtain ⟨t178, A740, H⟩ := H
                            replace H : (if t178 = true then (some (a0 == a1)) else (some true)) = some r := H
                            have A74 := Aside0.mk A740
                            clear A740
                            by_cases c75 : t178 = true
                            · subst c75
                              have H1 : (some (a0 == a1)) = some r := by rw [if_pos rfl] at H; exact H
                              clear H
                              have H := H1
                              clear H1
                              obtain rfl := Option.some.inj H
                              go_wp2_with (first | ((with_reducible refine gate_callee (f := 36) rfl ?_); refine goesL_ (some 103) rfl rfl Try.func36 (by kernel_rfl) rfl #[.int .i64 a0, .int .i64 a1] rfl (by (try simp only [List.map_toArray, List.map_cons, List.map_nil]); first | done | rfl | (simp only [List.length_drop, List.length_take]; rfl)) ?_; (with_reducible refine (modes_Covers.calls kj58 a0 a1 true _ A72.out).mono ?_); rintro e w76 ⟨rfl, hb⟩; refine ⟨_, rfl, ?_⟩; have n0_ := Aside0.mk (below_step (by repeat (first | (with_reducible first | exact HB.out | apply below_alloc | apply pw_below_drewN | apply below_drew1) | exact HB.out)) hb); clear HB; have HB := n0_; clear n0_; (try clear hb); (try clear hb2); (try clear hk); (try clear hi)) | (go_at_call 36; (with_reducible refine (modes_Covers.calls kj58 a1 a0 true _ A74.out).mono ?_); rintro e w77 ⟨rfl, hb⟩; have n0_ := Aside0.mk (below_step (by repeat (first | (with_reducible first | exact HB.out | apply below_alloc | apply pw_below_drewN | apply below_drew1) | exact HB.out)) hb); clear HB; have HB := n0_; clear n0_; (try clear hb); (try clear hb2); (try clear hk); (try clear hi)))
                              go_ret
                              exact ⟨by first | rfl | (simp [errW_none, errW_some] <;> rfl) | (simp [*, errW_none, errW_some] <;> rfl), by repeat (first | (with_reducible first | exact HB.out | apply below_alloc | apply pw_below_drewN | apply below_drew1) | exact HB.out)⟩
                            · replace c75 := Bool.eq_false_iff.mpr c75
                              subst c75
                              have H1 : (some true) = some r := by rw [if_neg (show ¬ (false = true) by decide)] at H; exact H
                              clear H
                              have H := H1
                              clear H1
                              obtain rfl := Option.some.inj H
                              go_wp2_with (first | ((with_reducible refine gate_callee (f := 36) rfl ?_); refine goesL_ (some 103) rfl rfl Try.func36 (by kernel_rfl) rfl #[.int .i64 a0, .int .i64 a1] rfl (by (try simp only [List.map_toArray, List.map_cons, List.map_nil]); first | done | rfl | (simp only [List.length_drop, List.length_take]; rfl)) ?_; (with_reducible refine (modes_Covers.calls kj58 a0 a1 true _ A72.out).mono ?_); rintro e w78 ⟨rfl, hb⟩; refine ⟨_, rfl, ?_⟩; have n0_ := Aside0.mk (below_step (by repeat (first | (with_reducible first | exact HB.out | apply below_alloc | apply pw_below_drewN | apply below_drew1) | exact HB.out)) hb); clear HB; have HB := n0_; clear n0_; (try clear hb); (try clear hb2); (try clear hk); (try clear hi)) | (go_at_call 36; (with_reducible refine (modes_Covers.calls kj58 a1 a0 false _ A74.out).mono ?_); rintro e w79 ⟨rfl, hb⟩; have n0_ := Aside0.mk (below_step (by repeat (first | (with_reducible first | exact HB.out | apply below_alloc | apply pw_below_drewN | apply below_drew1) | exact HB.out)) hb); clear HB; have HB := n0_; clear n0_; (try clear hb); (try clear hb2); (try clear hk); (try clear hi)))
                              go_ret
                              exact ⟨by first | rfl | (simp [errW_none, errW_some] <;> rfl) | (simp [*, errW_none, errW_some] <;> rfl), by repeat (first | (with_reducible first | exact HB.out | apply below_alloc | apply pw_below_drewN | apply below_drew1) | exact HB.out)⟩
                          · replace c73 := Bool.eq_false_iff.mpr c73
                            subst c73
                            have H1 : (some true) = some r := by rw [if_neg (show ¬ (false = true) by decide)] at H; exact H
                            clear H
                            have H := H1
                            clear H1
                            obtain rfl := Option.some.inj H
                            go_wp2_with (first | ((with_reducible refine gate_callee (f := 36) rfl ?_); refine goesL_ (some 103) rfl rfl Try.func36 (by kernel_rfl) rfl #[.int .i64 a0, .int .i64 a1] rfl (by (try simp only [List.map_toArray, List.map_cons, List.map_nil]); first | done | rfl | (simp only [List.length_drop, List.length_take]; rfl)) ?_; (with_reducible refine (modes_Covers.calls kj58 a0 a1 false _ A72.out).mono ?_); rintro e w80 ⟨rfl, hb⟩; refine ⟨_, rfl, ?_⟩; have n0_ := Aside0.mk (below_step (by repeat (first | (with_reducible first | exact HB.out | apply below_alloc | apply pw_below_drewN | apply below_drew1) | exact HB.out)) hb); clear HB; have HB := n0_; clear n0_; (try clear hb); (try clear hb2); (try clear hk); (try clear hi)))
                            go_ret
                            exact ⟨by first | rfl | (simp [errW_none, errW_some] <;> rfl) | (simp [*, errW_none, errW_some] <;> rfl), by repeat (first | (with_reducible first | exact HB.out | apply below_alloc | apply pw_below_drewN | apply below_drew1) | exact HB.out)⟩

/-- THE ONE PURE STATEMENT of postelaw10_ModesLaws: yours. -/
def postelaw10_ModesLaws.Pure : Prop := ∀ (a0 : Int) (a1 : Int) (a2 : Int), (Lit.int .i64 a0).wf = true → (Lit.int .i64 a1).wf = true → (Lit.int .i64 a2).wf = true → ∃ k, postelaw10_ModesLaws.f k a0 a1 a2 = some true
theorem postelaw10_ModesLaws.walk (P : postelaw10_ModesLaws.Pure) (a0 : Int) (a1 : Int) (a2 : Int) (w : World) (w0 : (Lit.int .i64 a0).wf = true) (w1 : (Lit.int .i64 a1).wf = true) (w2 : (Lit.int .i64 a2).wf = true) :
    Calls Try.prog 9 #[.int .i64 a0, .int .i64 a1, .int .i64 a2] w fun e w' => e = .returned (.bool true) ∧ Below w.heap.size w w' := by
  obtain ⟨k, h⟩ := P a0 a1 a2 w0 w1 w2
  refine (postelaw10_ModesLaws.calls k a0 a1 a2 true w h).mono ?_
  rintro e w' ⟨rfl, hd⟩
  exact ⟨rfl, hd⟩

end Go.Proofs.Ytppcofcgdbflpaa.PModesLaws
