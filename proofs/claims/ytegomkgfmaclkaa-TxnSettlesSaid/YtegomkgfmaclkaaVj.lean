/-
  posteref14.RightState and postelaw19.Few, each by its contract.
-/
import Derived.Test.YtegomkgfmaclkaaVi
import Derived.Deep.DeepCutAuto
import Derived.Deep.RegionHeld3
import Derived.Test.YtegomkgfmaclkaaTill
set_option linter.unusedVariables false
set_option linter.unusedSimpArgs false
namespace Go.Proofs.Ytegomkgfmaclkaa
open Go.RowKit Go.Proofs.PosteOrd Go.Proofs.PosteMem

def Ob.zero : Ob := ⟨⟨#[]⟩, 0, 0, [], [], [], .slice none 0 0, .slice none 0 0, .slice none 0 0⟩
/-- May an object stand at its place, and be of its name and kind? -/
def okA (L : List Ob) (i : Nat) : Bool := nameB (L.getD i Ob.zero).name && kindB (L.getD i Ob.zero).kind (L.getD i Ob.zero).limit && !(decide (0 < i) && decide (0 ≤ cmpL (L.getD (i - 1) Ob.zero).name.toList (L.getD i Ob.zero).name.toList))
/-- .. and have what it has? -/
def okK (o : Ob) : Bool := !((decide (o.kind = 1) && decide (0 < o.msgs.length + o.dead.length)) || (decide (o.kind = 2) && decide (0 < o.rows.length)))
noncomputable def okB (next : Int) (o : Ob) : Bool := okK o && risesB o.rows && risesMB o.msgs && msgsB next false o.msgs && msgsB next true o.dead
def one1 (L : List Ob) (m : Msg) : Bool := decide ((tot m.id L : Int) = 1)
noncomputable def okO (next : Int) (L : List Ob) (i : Nat) : Bool := okA L i && okB next (L.getD i Ob.zero) && (L.getD i Ob.zero).rows.all rightB && (L.getD i Ob.zero).msgs.all (one1 L) && (L.getD i Ob.zero).dead.all (one1 L)
noncomputable def rightSB (next : Int) (L : List Ob) : Bool := decide (1 ≤ next) && decide (next ≤ 1099511627776) && decide (L.length ≤ 20) && (List.range L.length).all (okO next L)
set_option maxRecDepth 100000 in
set_option maxHeartbeats 8000000 in
theorem rightState_any (w : World) (next : Int) (v : Value) (L : List Ob) (hL : VObs w v L) (hm : L.length ≤ 1000) (hf : ∀ o ∈ L, o.few) (hoB : ∀ o ∈ L, RowsOk o.rows) (hnm : ∀ o ∈ L, o.name.size ≤ 140737488351232) :
    Calls Try.prog 27 #[.agg #[.int .i64 next, v]] w fun e w' => e = .returned (.bool (rightSB next L)) ∧ Below w.heap.size w w' := by
  obtain ⟨A, cap, rfl, hc, _⟩ := hL.view.cells
  have hb0 : Below w.heap.size w (w.alloc (.cells #[.int .i64 next, .slice A L.length cap] 45)) := (Below.refl _ _).alloc (Nat.le_refl _) _
  have hbx := Whole.new w 45 #[.int .i64 next, .slice A L.length cap]
  have hno : (List.range L.length).all (okO next L) = false → rightSB next L = false := fun h => by unfold rightSB; rw [h, Bool.and_false]
  have hyes : 1 ≤ next → next ≤ 1099511627776 → L.length ≤ 20 → rightSB next L = (List.range L.length).all (okO next L) := fun a b c => by unfold rightSB; rw [decide_eq_true a, decide_eq_true b, decide_eq_true c]; rfl
  by_cases g1 : 1 ≤ next
  · by_cases g2 : next ≤ 1099511627776
    · by_cases g3 : L.length ≤ 20
      · have hrs := hyes g1 g2 g3
        have r1 : ¬ next < 1 := by omega
        have r2 : ¬ (1099511627776 : Int) < next := by omega
        have r3 : ¬ (20 : Int) < (L.length : Int) := by omega
        replace hrs := Lib.hid hrs
        replace hno := Lib.hid hno
        replace hL := Lib.hid hL
        replace hf := Lib.hid hf
        replace hoB := Lib.hid hoB
        replace hnm := Lib.hid hnm
        clear hyes
        go_enter Try.func27, Try.ntmps27
        go_upto_region 4 with fail
        have e1 : decide (next < 1) = false := decide_eq_false (by omega)
        have e2 : decide ((1099511627776 : Int) < next) = false := decide_eq_false (by omega)
        have e3 : decide ((20 : Int) < (L.length : Int)) = false := decide_eq_false (by omega)
        have e4 : decide (20 < L.length) = false := decide_eq_false (by omega)
        try simp only [e1, e2, e3, e4, Bool.or_self]
        clear e1 e2 e3 e4 r1 r2 r3
        replace hb0 := Lib.hid hb0
        replace hbx := Lib.hid hbx
        generalize w.alloc (.cells #[.int .i64 next, .slice A L.length cap] 45) = wA at *
        go_loopw [3] (fun i wr => ∃ k : Nat, k ≤ L.length ∧ i = .int .i64 k ∧ (∀ j, j < k → okO next L j = true) ∧ Whole wr w.heap.size 45 #[.int .i64 next, .slice A L.length cap] ∧ Below w.heap.size w wr) (fun i _ => L.length - (intOf i).toNat)
        case atStart => exact ⟨0, by omega, rfl, (fun j h => by omega), hbx.out, hb0.out⟩
        case round =>
          clear hbx hb0
          obtain ⟨k, hk, rfl, hall, hX, hB⟩ := hrel
          replace hall := Lib.hid hall
          have x0 : wr.cell? ⟨w.heap.size, 0, none⟩ = some (.int .i64 next) := hX.cell 0
          have x1 : wr.cell? ⟨w.heap.size, 1, none⟩ = some (.slice A L.length cap) := hX.cell 1
          have xl := hX.lt
          by_cases hlt : k < L.length
          · have q1 : (k : Int) < (L.length : Int) := by omega
            have hLr := hL.out.below hB
            obtain ⟨b, off, cap', e, _, _, hblw, f⟩ := obs_at hL.out (by omega)
            injection e with e1 e2 e3
            subst e1 e3
            have hcb := fun {o : Nat} {v : Value} (h : w.cell? ⟨b, o, none⟩ = some v) => (hB.cell (p := ⟨b, o, none⟩) hblw).trans h
            obtain ⟨p0, p1, p2, p3, p4, p5⟩ := f k hlt
            replace p0 := hcb p0; replace p1 := hcb p1; replace p2 := hcb p2; replace p3 := hcb p3; replace p4 := hcb p4; replace p5 := hcb p5
            have hbl : b < wr.heap.size := Nat.lt_of_lt_of_le hblw hB.size
            have hO := hLr.each _ (List.getElem_mem hlt)
            have hfw := hf.out _ (List.getElem_mem hlt)
            have hRok := hoB.out _ (List.getElem_mem hlt)
            have hnk := hnm.out _ (List.getElem_mem hlt)
            have hst : okO next L k = true → ∀ j, j < k + 1 → okO next L j = true := fun h9 j hjk => by
              rcases Nat.lt_or_ge j k with h8 | h8
              · exact hall.out j h8
              · obtain rfl : j = k := by omega
                exact h9
            have hnk2 : okO next L k = false → rightSB next L = false := fun h9 => hno.out (range_no hlt h9)
            have hA : okA L k = (nameB L[k].name && kindB L[k].kind L[k].limit && !(decide (0 < k) && decide (0 ≤ cmpL (L.getD (k - 1) Ob.zero).name.toList L[k].name.toList))) := by unfold okA; rw [getD_in hlt]
            have hOO : okO next L k = (okA L k && okB next L[k] && L[k].rows.all rightB && L[k].msgs.all (one1 L) && L[k].dead.all (one1 L)) := by unfold okO; rw [getD_in hlt]
            have hpr : 0 < k → ∃ j, k = j + 1 ∧ ∃ hj : j < L.length, wr.cell? ⟨b, off + j * 6, none⟩ = some (.string L[j].name) ∧ L[j].name.size ≤ 140737488351232 ∧ (L.getD (k - 1) Ob.zero).name = L[j].name := fun h => by
              refine ⟨k - 1, by omega, by omega, hcb (f (k - 1) (by omega)).1, hnm.out _ (List.getElem_mem _), by rw [getD_in (by omega)]⟩
            obtain ⟨Ar, cr, er, _, _⟩ := hO.rows.cells
            obtain ⟨Am, cm, em, _, _⟩ := hO.msgs.cells
            obtain ⟨Ad, cd, ed, _, _⟩ := hO.dead.cells
            have hVr := hO.rows
            have hVm := hO.msgs
            have hVd := hO.dead
            rw [er] at p3 hVr
            rw [em] at p4 hVm
            rw [ed] at p5 hVd
            clear hO hcb er em ed hLr
            rw [hOO] at hst hnk2
            generalize hoA : okA L k = oA at *
            generalize (L.getD (k - 1) Ob.zero).name = pn at *
            generalize L[k] = o at *
            obtain ⟨on, ok', ol, oR, oM, oD, r', m', d'⟩ := o
            unfold Ob.few at hfw
            simp only at p0 p1 p2 p3 p4 p5 hfw hRok hnk hVr hVm hVd hA hst hnk2
            obtain ⟨hf1, hf2, hf3⟩ := hfw
            have hal : Below wr.heap.size wr (wr.alloc (.cells #[.string on, .int .i64 ok', .int .i64 ol, .slice Ar oR.length cr, .slice Am oM.length cm, .slice Ad oD.length cd] 42)) := (Below.refl _ _).alloc (Nat.le_refl _) _
            have hQ := Lib.hid (Whole.new wr 42 #[.string on, .int .i64 ok', .int .i64 ol, .slice Ar oR.length cr, .slice Am oM.length cm, .slice Ad oD.length cd])
            have hX1 := Lib.hid (hX.below hal)
            have hB1 := Lib.hid (hB.trans (hal.mono hB.size))
            have hVr1 := Lib.hid (View.below hVr hal)
            have hVm1 := Lib.hid (View.below hVm hal)
            have hVd1 := Lib.hid (View.below hVd hal)
            have hpr1 : 0 < k → ∃ j, k = j + 1 ∧ j < L.length ∧ (wr.alloc (.cells #[.string on, .int .i64 ok', .int .i64 ol, .slice Ar oR.length cr, .slice Am oM.length cm, .slice Ad oD.length cd] 42)).cell? ⟨b, off + j * 6, none⟩ = some (.string pn) ∧ pn.size ≤ 140737488351232 := fun h => by
              obtain ⟨j, h1, hj, h2, h3, h4⟩ := hpr h
              rw [h4]
              exact ⟨j, h1, hj, (hal.cell (p := ⟨b, off + j * 6, none⟩) hbl).trans h2, h3⟩
            have hblA : b < (wr.alloc (.cells #[.string on, .int .i64 ok', .int .i64 ol, .slice Ar oR.length cr, .slice Am oM.length cm, .slice Ad oD.length cd] 42)).heap.size := Nat.lt_of_lt_of_le hbl hal.size
            replace hst := Lib.hid hst
            replace hnk2 := Lib.hid hnk2
            replace hA := Lib.hid hA
            replace hoA := Lib.hid hoA
            replace hpr1 := Lib.hid hpr1
            replace hRok := Lib.hid hRok
            replace hX := Lib.hid hX
            replace hB := Lib.hid hB
            replace hVr := Lib.hid hVr
            replace hVm := Lib.hid hVm
            replace hVd := Lib.hid hVd
            clear hpr hal
            go_upto_region 7 with fail
            clear p0 p1 p2 p3 p4 p5 hVr hVm hVd hB hX hbl x0 x1 xl
            generalize wr.alloc (.cells #[.string on, .int .i64 ok', .int .i64 ol, .slice Ar oR.length cr, .slice Am oM.length cm, .slice Ad oD.length cd] 42) = W at *
            generalize wr.heap.size = q at *
            go_cut [62] (fun s wx => s = .bool (!oA) ∧ Below W.heap.size W wx)
            case first =>
              have c0 := hQ.out.cell 0
              have c1 := hQ.out.cell 1
              have c2 := hQ.out.cell 2
              have x1 : W.cell? ⟨w.heap.size, 1, none⟩ = some (.slice (some ⟨b, off, none⟩) L.length cap) := hX1.out.cell 1
              have hqlt := hQ.out.lt
              have hplt := hX1.out.lt
              cases hnb : nameB on with
              | false =>
                have hoa : oA = false := by rw [hA.out, hnb]; rfl
                replace hnb := Lib.hid hnb
                replace hoa := Lib.hid hoa
                refine tl_begin (fun (w' : World) => (w'.cell? ⟨q, 0, none⟩ = some (.string on) ∧ w'.cell? ⟨q, 1, none⟩ = some (.int .i64 ok') ∧ w'.cell? ⟨q, 2, none⟩ = some (.int .i64 ol)) ∧ w'.cell? ⟨w.heap.size, 1, none⟩ = some (.slice (some ⟨b, off, none⟩) L.length cap)) [] (by kernel_rfl) (⟨⟨c0, c1, c2⟩, x1⟩) (fun hHeld => ?_)
                refine tl_p (i := 0) (v := ?_) rfl (by rfl) (by kernel_rfl) (by kernel_rfl) (by kernel_rfl) (fun _ _ _ h => h) (by rfl) hHeld ?_ ?_
                rotate_left
                · intro w
                  go_simp
                  try (with_reducible rfl)
                try simp only [Act.put, List.setIfInBounds_toArray, List.set_cons_zero, List.set_cons_succ]
                refine tl_w (i := 1) (v := ?_) rfl (by rfl) (by kernel_rfl) (by kernel_rfl) (by kernel_rfl) (by kernel_rfl) (by kernel_rfl) (fun _ _ _ h => h) (by rfl) hHeld ?_ ?_
                rotate_left
                · intro w hSw
                  try dsimp only at hSw
                  go_simp
                  try (with_reducible rfl)
                try simp only [Act.put, List.setIfInBounds_toArray, List.set_cons_zero, List.set_cons_succ]
                refine tl_do (i := 2) rfl (by kernel_rfl) (by rfl) (fun K hK => ?_)
                go_simp
                go_at_call 64
                refine (name_any _ _).mono ?_; rintro e w9 ⟨rfl, hw1⟩
                have hw2 := hw1.symm
                subst hw2
                clear hw1
                rw [hnb.out]
                try go_wp2_with fail
                refine hK.out _ _ (hHeld) (fun hHeld1 => ?_)
                clear hK K hHeld
                have hHeld := hHeld1
                clear hHeld1
                try simp only [Act.put, List.setIfInBounds_toArray, List.set_cons_zero, List.set_cons_succ]
                refine tl_p (i := 3) (v := ?_) rfl (by rfl) (by kernel_rfl) (by kernel_rfl) (by kernel_rfl) (fun _ _ _ h => h) (by rfl) hHeld ?_ ?_
                rotate_left
                · intro w
                  go_simp
                  try (with_reducible rfl)
                try simp only [Act.put, List.setIfInBounds_toArray, List.set_cons_zero, List.set_cons_succ]
                refine tl_p (i := 4) (v := ?_) rfl (by rfl) (by kernel_rfl) (by kernel_rfl) (by kernel_rfl) (fun _ _ _ h => h) (by rfl) hHeld ?_ ?_
                rotate_left
                · intro w
                  go_simp
                  try (with_reducible rfl)
                try simp only [Act.put, List.setIfInBounds_toArray, List.set_cons_zero, List.set_cons_succ]
                refine tl_u (i := 5) rfl (by rfl) (by kernel_rfl) (by kernel_rfl) (by kernel_rfl) (fun _ _ _ h => h) (by rfl) hHeld ?_
                try simp only [Act.put, List.setIfInBounds_toArray, List.set_cons_zero, List.set_cons_succ]
                refine tl_u (i := 6) rfl (by rfl) (by kernel_rfl) (by kernel_rfl) (by kernel_rfl) (fun _ _ _ h => h) (by rfl) hHeld ?_
                try simp only [Act.put, List.setIfInBounds_toArray, List.set_cons_zero, List.set_cons_succ]
                refine tl_u (i := 7) rfl (by rfl) (by kernel_rfl) (by kernel_rfl) (by kernel_rfl) (fun _ _ _ h => h) (by rfl) hHeld ?_
                try simp only [Act.put, List.setIfInBounds_toArray, List.set_cons_zero, List.set_cons_succ]
                refine tl_u (i := 8) rfl (by rfl) (by kernel_rfl) (by kernel_rfl) (by kernel_rfl) (fun _ _ _ h => h) (by rfl) hHeld ?_
                try simp only [Act.put, List.setIfInBounds_toArray, List.set_cons_zero, List.set_cons_succ]
                refine tl_u (i := 9) rfl (by rfl) (by kernel_rfl) (by kernel_rfl) (by kernel_rfl) (fun _ _ _ h => h) (by rfl) hHeld ?_
                try simp only [Act.put, List.setIfInBounds_toArray, List.set_cons_zero, List.set_cons_succ]
                refine tl_u (i := 10) rfl (by rfl) (by kernel_rfl) (by kernel_rfl) (by kernel_rfl) (fun _ _ _ h => h) (by rfl) hHeld ?_
                try simp only [Act.put, List.setIfInBounds_toArray, List.set_cons_zero, List.set_cons_succ]
                refine tl_p (i := 11) (v := ?_) rfl (by rfl) (by kernel_rfl) (by kernel_rfl) (by kernel_rfl) (fun _ _ _ h => h) (by rfl) hHeld ?_ ?_
                rotate_left
                · intro w
                  go_simp
                  try (with_reducible rfl)
                try simp only [Act.put, List.setIfInBounds_toArray, List.set_cons_zero, List.set_cons_succ]
                refine tl_p (i := 12) (v := ?_) rfl (by rfl) (by kernel_rfl) (by kernel_rfl) (by kernel_rfl) (fun _ _ _ h => h) (by rfl) hHeld ?_ ?_
                rotate_left
                · intro w
                  go_simp
                  try (with_reducible rfl)
                try simp only [Act.put, List.setIfInBounds_toArray, List.set_cons_zero, List.set_cons_succ]
                refine tl_u (i := 13) rfl (by rfl) (by kernel_rfl) (by kernel_rfl) (by kernel_rfl) (fun _ _ _ h => h) (by rfl) hHeld ?_
                try simp only [Act.put, List.setIfInBounds_toArray, List.set_cons_zero, List.set_cons_succ]
                refine tl_u (i := 14) rfl (by rfl) (by kernel_rfl) (by kernel_rfl) (by kernel_rfl) (fun _ _ _ h => h) (by rfl) hHeld ?_
                try simp only [Act.put, List.setIfInBounds_toArray, List.set_cons_zero, List.set_cons_succ]
                refine tl_u (i := 15) rfl (by rfl) (by kernel_rfl) (by kernel_rfl) (by kernel_rfl) (fun _ _ _ h => h) (by rfl) hHeld ?_
                try simp only [Act.put, List.setIfInBounds_toArray, List.set_cons_zero, List.set_cons_succ]
                refine tl_u (i := 16) rfl (by rfl) (by kernel_rfl) (by kernel_rfl) (by kernel_rfl) (fun _ _ _ h => h) (by rfl) hHeld ?_
                try simp only [Act.put, List.setIfInBounds_toArray, List.set_cons_zero, List.set_cons_succ]
                refine tl_u (i := 17) rfl (by rfl) (by kernel_rfl) (by kernel_rfl) (by kernel_rfl) (fun _ _ _ h => h) (by rfl) hHeld ?_
                try simp only [Act.put, List.setIfInBounds_toArray, List.set_cons_zero, List.set_cons_succ]
                refine tl_u (i := 18) rfl (by rfl) (by kernel_rfl) (by kernel_rfl) (by kernel_rfl) (fun _ _ _ h => h) (by rfl) hHeld ?_
                try simp only [Act.put, List.setIfInBounds_toArray, List.set_cons_zero, List.set_cons_succ]
                refine tl_u (i := 19) rfl (by rfl) (by kernel_rfl) (by kernel_rfl) (by kernel_rfl) (fun _ _ _ h => h) (by rfl) hHeld ?_
                try simp only [Act.put, List.setIfInBounds_toArray, List.set_cons_zero, List.set_cons_succ]
                refine tl_u (i := 20) rfl (by rfl) (by kernel_rfl) (by kernel_rfl) (by kernel_rfl) (fun _ _ _ h => h) (by rfl) hHeld ?_
                try simp only [Act.put, List.setIfInBounds_toArray, List.set_cons_zero, List.set_cons_succ]
                refine tl_u (i := 21) rfl (by rfl) (by kernel_rfl) (by kernel_rfl) (by kernel_rfl) (fun _ _ _ h => h) (by rfl) hHeld ?_
                try simp only [Act.put, List.setIfInBounds_toArray, List.set_cons_zero, List.set_cons_succ]
                refine tl_u (i := 22) rfl (by rfl) (by kernel_rfl) (by kernel_rfl) (by kernel_rfl) (fun _ _ _ h => h) (by rfl) hHeld ?_
                try simp only [Act.put, List.setIfInBounds_toArray, List.set_cons_zero, List.set_cons_succ]
                refine tl_u (i := 23) rfl (by rfl) (by kernel_rfl) (by kernel_rfl) (by kernel_rfl) (fun _ _ _ h => h) (by rfl) hHeld ?_
                try simp only [Act.put, List.setIfInBounds_toArray, List.set_cons_zero, List.set_cons_succ]
                refine tl_u (i := 24) rfl (by rfl) (by kernel_rfl) (by kernel_rfl) (by kernel_rfl) (fun _ _ _ h => h) (by rfl) hHeld ?_
                try simp only [Act.put, List.setIfInBounds_toArray, List.set_cons_zero, List.set_cons_succ]
                refine tl_u (i := 25) rfl (by rfl) (by kernel_rfl) (by kernel_rfl) (by kernel_rfl) (fun _ _ _ h => h) (by rfl) hHeld ?_
                try simp only [Act.put, List.setIfInBounds_toArray, List.set_cons_zero, List.set_cons_succ]
                refine tl_u (i := 26) rfl (by rfl) (by kernel_rfl) (by kernel_rfl) (by kernel_rfl) (fun _ _ _ h => h) (by rfl) hHeld ?_
                try simp only [Act.put, List.setIfInBounds_toArray, List.set_cons_zero, List.set_cons_succ]
                refine tl_u (i := 27) rfl (by rfl) (by kernel_rfl) (by kernel_rfl) (by kernel_rfl) (fun _ _ _ h => h) (by rfl) hHeld ?_
                try simp only [Act.put, List.setIfInBounds_toArray, List.set_cons_zero, List.set_cons_succ]
                refine tl_p (i := 28) (v := ?_) rfl (by rfl) (by kernel_rfl) (by kernel_rfl) (by kernel_rfl) (fun _ _ _ h => h) (by rfl) hHeld ?_ ?_
                rotate_left
                · intro w
                  go_simp
                  try (with_reducible rfl)
                try simp only [Act.put, List.setIfInBounds_toArray, List.set_cons_zero, List.set_cons_succ]
                refine till_done (by kernel_rfl) ?_ _
                clear hHeld
                go_wp2_with fail
                go_meet
                exact ⟨by rw [hoa.out]; rfl, by first | exact Below.drew (Below.refl _ _) | exact below_dn _ (Below.refl _ _)⟩
              | true =>
                cases hkb : kindB ok' ol with
                | false =>
                  have hoa : oA = false := by rw [hA.out, hnb, hkb]; rfl
                  replace hnb := Lib.hid hnb
                  replace hkb := Lib.hid hkb
                  replace hoa := Lib.hid hoa
                  refine tl_begin (fun (w' : World) => (w'.cell? ⟨q, 0, none⟩ = some (.string on) ∧ w'.cell? ⟨q, 1, none⟩ = some (.int .i64 ok') ∧ w'.cell? ⟨q, 2, none⟩ = some (.int .i64 ol)) ∧ w'.cell? ⟨w.heap.size, 1, none⟩ = some (.slice (some ⟨b, off, none⟩) L.length cap)) [] (by kernel_rfl) (⟨⟨c0, c1, c2⟩, x1⟩) (fun hHeld => ?_)
                  refine tl_p (i := 0) (v := ?_) rfl (by rfl) (by kernel_rfl) (by kernel_rfl) (by kernel_rfl) (fun _ _ _ h => h) (by rfl) hHeld ?_ ?_
                  rotate_left
                  · intro w
                    go_simp
                    try (with_reducible rfl)
                  try simp only [Act.put, List.setIfInBounds_toArray, List.set_cons_zero, List.set_cons_succ]
                  refine tl_w (i := 1) (v := ?_) rfl (by rfl) (by kernel_rfl) (by kernel_rfl) (by kernel_rfl) (by kernel_rfl) (by kernel_rfl) (fun _ _ _ h => h) (by rfl) hHeld ?_ ?_
                  rotate_left
                  · intro w hSw
                    try dsimp only at hSw
                    go_simp
                    try (with_reducible rfl)
                  try simp only [Act.put, List.setIfInBounds_toArray, List.set_cons_zero, List.set_cons_succ]
                  refine tl_do (i := 2) rfl (by kernel_rfl) (by rfl) (fun K hK => ?_)
                  go_simp
                  go_at_call 64
                  refine (name_any _ _).mono ?_; rintro e w9 ⟨rfl, hw1⟩
                  have hw2 := hw1.symm
                  subst hw2
                  clear hw1
                  rw [hnb.out]
                  try go_wp2_with fail
                  refine hK.out _ _ (hHeld) (fun hHeld1 => ?_)
                  clear hK K hHeld
                  have hHeld := hHeld1
                  clear hHeld1
                  try simp only [Act.put, List.setIfInBounds_toArray, List.set_cons_zero, List.set_cons_succ]
                  refine tl_p (i := 3) (v := ?_) rfl (by rfl) (by kernel_rfl) (by kernel_rfl) (by kernel_rfl) (fun _ _ _ h => h) (by rfl) hHeld ?_ ?_
                  rotate_left
                  · intro w
                    go_simp
                    try (with_reducible rfl)
                  try simp only [Act.put, List.setIfInBounds_toArray, List.set_cons_zero, List.set_cons_succ]
                  refine tl_p (i := 4) (v := ?_) rfl (by rfl) (by kernel_rfl) (by kernel_rfl) (by kernel_rfl) (fun _ _ _ h => h) (by rfl) hHeld ?_ ?_
                  rotate_left
                  · intro w
                    go_simp
                    try (with_reducible rfl)
                  try simp only [Act.put, List.setIfInBounds_toArray, List.set_cons_zero, List.set_cons_succ]
                  refine tl_p (i := 5) (v := ?_) rfl (by rfl) (by kernel_rfl) (by kernel_rfl) (by kernel_rfl) (fun _ _ _ h => h) (by rfl) hHeld ?_ ?_
                  rotate_left
                  · intro w
                    go_simp
                    try (with_reducible rfl)
                  try simp only [Act.put, List.setIfInBounds_toArray, List.set_cons_zero, List.set_cons_succ]
                  refine tl_w (i := 6) (v := ?_) rfl (by rfl) (by kernel_rfl) (by kernel_rfl) (by kernel_rfl) (by kernel_rfl) (by kernel_rfl) (fun _ _ _ h => h) (by rfl) hHeld ?_ ?_
                  rotate_left
                  · intro w hSw
                    try dsimp only at hSw
                    go_simp
                    try (with_reducible rfl)
                  try simp only [Act.put, List.setIfInBounds_toArray, List.set_cons_zero, List.set_cons_succ]
                  refine tl_p (i := 7) (v := ?_) rfl (by rfl) (by kernel_rfl) (by kernel_rfl) (by kernel_rfl) (fun _ _ _ h => h) (by rfl) hHeld ?_ ?_
                  rotate_left
                  · intro w
                    go_simp
                    try (with_reducible rfl)
                  try simp only [Act.put, List.setIfInBounds_toArray, List.set_cons_zero, List.set_cons_succ]
                  refine tl_w (i := 8) (v := ?_) rfl (by rfl) (by kernel_rfl) (by kernel_rfl) (by kernel_rfl) (by kernel_rfl) (by kernel_rfl) (fun _ _ _ h => h) (by rfl) hHeld ?_ ?_
                  rotate_left
                  · intro w hSw
                    try dsimp only at hSw
                    go_simp
                    try (with_reducible rfl)
                  try simp only [Act.put, List.setIfInBounds_toArray, List.set_cons_zero, List.set_cons_succ]
                  refine tl_do (i := 9) rfl (by kernel_rfl) (by rfl) (fun K hK => ?_)
                  go_simp
                  go_at_call 65
                  refine (kind_any _ _ _).mono ?_; rintro e w9 ⟨rfl, hw1⟩
                  have hw2 := hw1.symm
                  subst hw2
                  clear hw1
                  rw [hkb.out]
                  try go_wp2_with fail
                  refine hK.out _ _ (hHeld) (fun hHeld1 => ?_)
                  clear hK K hHeld
                  have hHeld := hHeld1
                  clear hHeld1
                  try simp only [Act.put, List.setIfInBounds_toArray, List.set_cons_zero, List.set_cons_succ]
                  refine tl_p (i := 10) (v := ?_) rfl (by rfl) (by kernel_rfl) (by kernel_rfl) (by kernel_rfl) (fun _ _ _ h => h) (by rfl) hHeld ?_ ?_
                  rotate_left
                  · intro w
                    go_simp
                    try (with_reducible rfl)
                  try simp only [Act.put, List.setIfInBounds_toArray, List.set_cons_zero, List.set_cons_succ]
                  refine tl_p (i := 11) (v := ?_) rfl (by rfl) (by kernel_rfl) (by kernel_rfl) (by kernel_rfl) (fun _ _ _ h => h) (by rfl) hHeld ?_ ?_
                  rotate_left
                  · intro w
                    go_simp
                    try (with_reducible rfl)
                  try simp only [Act.put, List.setIfInBounds_toArray, List.set_cons_zero, List.set_cons_succ]
                  refine tl_p (i := 12) (v := ?_) rfl (by rfl) (by kernel_rfl) (by kernel_rfl) (by kernel_rfl) (fun _ _ _ h => h) (by rfl) hHeld ?_ ?_
                  rotate_left
                  · intro w
                    go_simp
                    try (with_reducible rfl)
                  try simp only [Act.put, List.setIfInBounds_toArray, List.set_cons_zero, List.set_cons_succ]
                  refine tl_u (i := 13) rfl (by rfl) (by kernel_rfl) (by kernel_rfl) (by kernel_rfl) (fun _ _ _ h => h) (by rfl) hHeld ?_
                  try simp only [Act.put, List.setIfInBounds_toArray, List.set_cons_zero, List.set_cons_succ]
                  refine tl_u (i := 14) rfl (by rfl) (by kernel_rfl) (by kernel_rfl) (by kernel_rfl) (fun _ _ _ h => h) (by rfl) hHeld ?_
                  try simp only [Act.put, List.setIfInBounds_toArray, List.set_cons_zero, List.set_cons_succ]
                  refine tl_u (i := 15) rfl (by rfl) (by kernel_rfl) (by kernel_rfl) (by kernel_rfl) (fun _ _ _ h => h) (by rfl) hHeld ?_
                  try simp only [Act.put, List.setIfInBounds_toArray, List.set_cons_zero, List.set_cons_succ]
                  refine tl_u (i := 16) rfl (by rfl) (by kernel_rfl) (by kernel_rfl) (by kernel_rfl) (fun _ _ _ h => h) (by rfl) hHeld ?_
                  try simp only [Act.put, List.setIfInBounds_toArray, List.set_cons_zero, List.set_cons_succ]
                  refine tl_u (i := 17) rfl (by rfl) (by kernel_rfl) (by kernel_rfl) (by kernel_rfl) (fun _ _ _ h => h) (by rfl) hHeld ?_
                  try simp only [Act.put, List.setIfInBounds_toArray, List.set_cons_zero, List.set_cons_succ]
                  refine tl_u (i := 18) rfl (by rfl) (by kernel_rfl) (by kernel_rfl) (by kernel_rfl) (fun _ _ _ h => h) (by rfl) hHeld ?_
                  try simp only [Act.put, List.setIfInBounds_toArray, List.set_cons_zero, List.set_cons_succ]
                  refine tl_u (i := 19) rfl (by rfl) (by kernel_rfl) (by kernel_rfl) (by kernel_rfl) (fun _ _ _ h => h) (by rfl) hHeld ?_
                  try simp only [Act.put, List.setIfInBounds_toArray, List.set_cons_zero, List.set_cons_succ]
                  refine tl_u (i := 20) rfl (by rfl) (by kernel_rfl) (by kernel_rfl) (by kernel_rfl) (fun _ _ _ h => h) (by rfl) hHeld ?_
                  try simp only [Act.put, List.setIfInBounds_toArray, List.set_cons_zero, List.set_cons_succ]
                  refine tl_u (i := 21) rfl (by rfl) (by kernel_rfl) (by kernel_rfl) (by kernel_rfl) (fun _ _ _ h => h) (by rfl) hHeld ?_
                  try simp only [Act.put, List.setIfInBounds_toArray, List.set_cons_zero, List.set_cons_succ]
                  refine tl_u (i := 22) rfl (by rfl) (by kernel_rfl) (by kernel_rfl) (by kernel_rfl) (fun _ _ _ h => h) (by rfl) hHeld ?_
                  try simp only [Act.put, List.setIfInBounds_toArray, List.set_cons_zero, List.set_cons_succ]
                  refine tl_u (i := 23) rfl (by rfl) (by kernel_rfl) (by kernel_rfl) (by kernel_rfl) (fun _ _ _ h => h) (by rfl) hHeld ?_
                  try simp only [Act.put, List.setIfInBounds_toArray, List.set_cons_zero, List.set_cons_succ]
                  refine tl_u (i := 24) rfl (by rfl) (by kernel_rfl) (by kernel_rfl) (by kernel_rfl) (fun _ _ _ h => h) (by rfl) hHeld ?_
                  try simp only [Act.put, List.setIfInBounds_toArray, List.set_cons_zero, List.set_cons_succ]
                  refine tl_u (i := 25) rfl (by rfl) (by kernel_rfl) (by kernel_rfl) (by kernel_rfl) (fun _ _ _ h => h) (by rfl) hHeld ?_
                  try simp only [Act.put, List.setIfInBounds_toArray, List.set_cons_zero, List.set_cons_succ]
                  refine tl_u (i := 26) rfl (by rfl) (by kernel_rfl) (by kernel_rfl) (by kernel_rfl) (fun _ _ _ h => h) (by rfl) hHeld ?_
                  try simp only [Act.put, List.setIfInBounds_toArray, List.set_cons_zero, List.set_cons_succ]
                  refine tl_u (i := 27) rfl (by rfl) (by kernel_rfl) (by kernel_rfl) (by kernel_rfl) (fun _ _ _ h => h) (by rfl) hHeld ?_
                  try simp only [Act.put, List.setIfInBounds_toArray, List.set_cons_zero, List.set_cons_succ]
                  refine tl_p (i := 28) (v := ?_) rfl (by rfl) (by kernel_rfl) (by kernel_rfl) (by kernel_rfl) (fun _ _ _ h => h) (by rfl) hHeld ?_ ?_
                  rotate_left
                  · intro w
                    go_simp
                    try (with_reducible rfl)
                  try simp only [Act.put, List.setIfInBounds_toArray, List.set_cons_zero, List.set_cons_succ]
                  refine till_done (by kernel_rfl) ?_ _
                  clear hHeld
                  go_wp2_with fail
                  go_meet
                  exact ⟨by rw [hoa.out]; rfl, by first | exact Below.drew (Below.refl _ _) | exact below_dn _ (Below.refl _ _)⟩
                | true =>
                  by_cases hk0 : k = 0
                  · have hoa : oA = true := by rw [hA.out, hnb, hkb, decide_eq_false (show ¬ 0 < k by omega)]; rfl
                    have q3 : decide (0 < k) = false := decide_eq_false (by omega)
                    replace hk0 := Lib.hid hk0
                    replace hnb := Lib.hid hnb
                    replace hkb := Lib.hid hkb
                    replace hoa := Lib.hid hoa
                    refine tl_begin (fun (w' : World) => (w'.cell? ⟨q, 0, none⟩ = some (.string on) ∧ w'.cell? ⟨q, 1, none⟩ = some (.int .i64 ok') ∧ w'.cell? ⟨q, 2, none⟩ = some (.int .i64 ol)) ∧ w'.cell? ⟨w.heap.size, 1, none⟩ = some (.slice (some ⟨b, off, none⟩) L.length cap)) [] (by kernel_rfl) (⟨⟨c0, c1, c2⟩, x1⟩) (fun hHeld => ?_)
                    refine tl_p (i := 0) (v := ?_) rfl (by rfl) (by kernel_rfl) (by kernel_rfl) (by kernel_rfl) (fun _ _ _ h => h) (by rfl) hHeld ?_ ?_
                    rotate_left
                    · intro w
                      go_simp
                      try (with_reducible rfl)
                    try simp only [Act.put, List.setIfInBounds_toArray, List.set_cons_zero, List.set_cons_succ]
                    refine tl_w (i := 1) (v := ?_) rfl (by rfl) (by kernel_rfl) (by kernel_rfl) (by kernel_rfl) (by kernel_rfl) (by kernel_rfl) (fun _ _ _ h => h) (by rfl) hHeld ?_ ?_
                    rotate_left
                    · intro w hSw
                      try dsimp only at hSw
                      go_simp
                      try (with_reducible rfl)
                    try simp only [Act.put, List.setIfInBounds_toArray, List.set_cons_zero, List.set_cons_succ]
                    refine tl_do (i := 2) rfl (by kernel_rfl) (by rfl) (fun K hK => ?_)
                    go_simp
                    go_at_call 64
                    refine (name_any _ _).mono ?_; rintro e w9 ⟨rfl, hw1⟩
                    have hw2 := hw1.symm
                    subst hw2
                    clear hw1
                    rw [hnb.out]
                    try go_wp2_with fail
                    refine hK.out _ _ (hHeld) (fun hHeld1 => ?_)
                    clear hK K hHeld
                    have hHeld := hHeld1
                    clear hHeld1
                    try simp only [Act.put, List.setIfInBounds_toArray, List.set_cons_zero, List.set_cons_succ]
                    refine tl_p (i := 3) (v := ?_) rfl (by rfl) (by kernel_rfl) (by kernel_rfl) (by kernel_rfl) (fun _ _ _ h => h) (by rfl) hHeld ?_ ?_
                    rotate_left
                    · intro w
                      go_simp
                      try (with_reducible rfl)
                    try simp only [Act.put, List.setIfInBounds_toArray, List.set_cons_zero, List.set_cons_succ]
                    refine tl_p (i := 4) (v := ?_) rfl (by rfl) (by kernel_rfl) (by kernel_rfl) (by kernel_rfl) (fun _ _ _ h => h) (by rfl) hHeld ?_ ?_
                    rotate_left
                    · intro w
                      go_simp
                      try (with_reducible rfl)
                    try simp only [Act.put, List.setIfInBounds_toArray, List.set_cons_zero, List.set_cons_succ]
                    refine tl_p (i := 5) (v := ?_) rfl (by rfl) (by kernel_rfl) (by kernel_rfl) (by kernel_rfl) (fun _ _ _ h => h) (by rfl) hHeld ?_ ?_
                    rotate_left
                    · intro w
                      go_simp
                      try (with_reducible rfl)
                    try simp only [Act.put, List.setIfInBounds_toArray, List.set_cons_zero, List.set_cons_succ]
                    refine tl_w (i := 6) (v := ?_) rfl (by rfl) (by kernel_rfl) (by kernel_rfl) (by kernel_rfl) (by kernel_rfl) (by kernel_rfl) (fun _ _ _ h => h) (by rfl) hHeld ?_ ?_
                    rotate_left
                    · intro w hSw
                      try dsimp only at hSw
                      go_simp
                      try (with_reducible rfl)
                    try simp only [Act.put, List.setIfInBounds_toArray, List.set_cons_zero, List.set_cons_succ]
                    refine tl_p (i := 7) (v := ?_) rfl (by rfl) (by kernel_rfl) (by kernel_rfl) (by kernel_rfl) (fun _ _ _ h => h) (by rfl) hHeld ?_ ?_
                    rotate_left
                    · intro w
                      go_simp
                      try (with_reducible rfl)
                    try simp only [Act.put, List.setIfInBounds_toArray, List.set_cons_zero, List.set_cons_succ]
                    refine tl_w (i := 8) (v := ?_) rfl (by rfl) (by kernel_rfl) (by kernel_rfl) (by kernel_rfl) (by kernel_rfl) (by kernel_rfl) (fun _ _ _ h => h) (by rfl) hHeld ?_ ?_
                    rotate_left
                    · intro w hSw
                      try dsimp only at hSw
                      go_simp
                      try (with_reducible rfl)
                    try simp only [Act.put, List.setIfInBounds_toArray, List.set_cons_zero, List.set_cons_succ]
                    refine tl_do (i := 9) rfl (by kernel_rfl) (by rfl) (fun K hK => ?_)
                    go_simp
                    go_at_call 65
                    refine (kind_any _ _ _).mono ?_; rintro e w9 ⟨rfl, hw1⟩
                    have hw2 := hw1.symm
                    subst hw2
                    clear hw1
                    rw [hkb.out]
                    try go_wp2_with fail
                    refine hK.out _ _ (hHeld) (fun hHeld1 => ?_)
                    clear hK K hHeld
                    have hHeld := hHeld1
                    clear hHeld1
                    try simp only [Act.put, List.setIfInBounds_toArray, List.set_cons_zero, List.set_cons_succ]
                    refine tl_p (i := 10) (v := ?_) rfl (by rfl) (by kernel_rfl) (by kernel_rfl) (by kernel_rfl) (fun _ _ _ h => h) (by rfl) hHeld ?_ ?_
                    rotate_left
                    · intro w
                      go_simp
                      try (with_reducible rfl)
                    try simp only [Act.put, List.setIfInBounds_toArray, List.set_cons_zero, List.set_cons_succ]
                    refine tl_p (i := 11) (v := ?_) rfl (by rfl) (by kernel_rfl) (by kernel_rfl) (by kernel_rfl) (fun _ _ _ h => h) (by rfl) hHeld ?_ ?_
                    rotate_left
                    · intro w
                      go_simp
                      try (with_reducible rfl)
                    try simp only [Act.put, List.setIfInBounds_toArray, List.set_cons_zero, List.set_cons_succ]
                    refine tl_p (i := 12) (v := ?_) rfl (by rfl) (by kernel_rfl) (by kernel_rfl) (by kernel_rfl) (fun _ _ _ h => h) (by rfl) hHeld ?_ ?_
                    rotate_left
                    · intro w
                      go_simp
                      try (with_reducible rfl)
                    try simp only [Act.put, List.setIfInBounds_toArray, List.set_cons_zero, List.set_cons_succ]
                    refine tl_p (i := 13) (v := ?_) rfl (by rfl) (by kernel_rfl) (by kernel_rfl) (by kernel_rfl) (fun _ _ _ h => h) (by rfl) hHeld ?_ ?_
                    rotate_left
                    · intro w
                      go_simp
                      try (with_reducible rfl)
                    try simp only [Act.put, List.setIfInBounds_toArray, List.set_cons_zero, List.set_cons_succ]
                    refine tl_p (i := 14) (v := ?_) rfl (by rfl) (by kernel_rfl) (by kernel_rfl) (by kernel_rfl) (fun _ _ _ h => h) (by rfl) hHeld ?_ ?_
                    rotate_left
                    · intro w
                      go_simp
                      try (with_reducible rfl)
                    try simp only [Act.put, List.setIfInBounds_toArray, List.set_cons_zero, List.set_cons_succ]
                    refine tl_p (i := 15) (v := ?_) rfl (by rfl) (by kernel_rfl) (by kernel_rfl) (by kernel_rfl) (fun _ _ _ h => h) (by rfl) hHeld ?_ ?_
                    rotate_left
                    · intro w
                      go_simp
                      try (with_reducible rfl)
                    try simp only [Act.put, List.setIfInBounds_toArray, List.set_cons_zero, List.set_cons_succ]
                    refine tl_u (i := 16) rfl (by rfl) (by kernel_rfl) (by kernel_rfl) (by kernel_rfl) (fun _ _ _ h => h) (by rfl) hHeld ?_
                    try simp only [Act.put, List.setIfInBounds_toArray, List.set_cons_zero, List.set_cons_succ]
                    refine tl_u (i := 17) rfl (by rfl) (by kernel_rfl) (by kernel_rfl) (by kernel_rfl) (fun _ _ _ h => h) (by rfl) hHeld ?_
                    try simp only [Act.put, List.setIfInBounds_toArray, List.set_cons_zero, List.set_cons_succ]
                    refine tl_u (i := 18) rfl (by rfl) (by kernel_rfl) (by kernel_rfl) (by kernel_rfl) (fun _ _ _ h => h) (by rfl) hHeld ?_
                    try simp only [Act.put, List.setIfInBounds_toArray, List.set_cons_zero, List.set_cons_succ]
                    refine tl_u (i := 19) rfl (by rfl) (by kernel_rfl) (by kernel_rfl) (by kernel_rfl) (fun _ _ _ h => h) (by rfl) hHeld ?_
                    try simp only [Act.put, List.setIfInBounds_toArray, List.set_cons_zero, List.set_cons_succ]
                    refine tl_u (i := 20) rfl (by rfl) (by kernel_rfl) (by kernel_rfl) (by kernel_rfl) (fun _ _ _ h => h) (by rfl) hHeld ?_
                    try simp only [Act.put, List.setIfInBounds_toArray, List.set_cons_zero, List.set_cons_succ]
                    refine tl_u (i := 21) rfl (by rfl) (by kernel_rfl) (by kernel_rfl) (by kernel_rfl) (fun _ _ _ h => h) (by rfl) hHeld ?_
                    try simp only [Act.put, List.setIfInBounds_toArray, List.set_cons_zero, List.set_cons_succ]
                    refine tl_u (i := 22) rfl (by rfl) (by kernel_rfl) (by kernel_rfl) (by kernel_rfl) (fun _ _ _ h => h) (by rfl) hHeld ?_
                    try simp only [Act.put, List.setIfInBounds_toArray, List.set_cons_zero, List.set_cons_succ]
                    refine tl_u (i := 23) rfl (by rfl) (by kernel_rfl) (by kernel_rfl) (by kernel_rfl) (fun _ _ _ h => h) (by rfl) hHeld ?_
                    try simp only [Act.put, List.setIfInBounds_toArray, List.set_cons_zero, List.set_cons_succ]
                    refine tl_u (i := 24) rfl (by rfl) (by kernel_rfl) (by kernel_rfl) (by kernel_rfl) (fun _ _ _ h => h) (by rfl) hHeld ?_
                    try simp only [Act.put, List.setIfInBounds_toArray, List.set_cons_zero, List.set_cons_succ]
                    refine tl_u (i := 25) rfl (by rfl) (by kernel_rfl) (by kernel_rfl) (by kernel_rfl) (fun _ _ _ h => h) (by rfl) hHeld ?_
                    try simp only [Act.put, List.setIfInBounds_toArray, List.set_cons_zero, List.set_cons_succ]
                    refine tl_u (i := 26) rfl (by rfl) (by kernel_rfl) (by kernel_rfl) (by kernel_rfl) (fun _ _ _ h => h) (by rfl) hHeld ?_
                    try simp only [Act.put, List.setIfInBounds_toArray, List.set_cons_zero, List.set_cons_succ]
                    refine tl_p (i := 27) (v := ?_) rfl (by rfl) (by kernel_rfl) (by kernel_rfl) (by kernel_rfl) (fun _ _ _ h => h) (by rfl) hHeld ?_ ?_
                    rotate_left
                    · intro w
                      go_simp
                      try (with_reducible rfl)
                    try simp only [Act.put, List.setIfInBounds_toArray, List.set_cons_zero, List.set_cons_succ]
                    refine tl_p (i := 28) (v := ?_) rfl (by rfl) (by kernel_rfl) (by kernel_rfl) (by kernel_rfl) (fun _ _ _ h => h) (by rfl) hHeld ?_ ?_
                    rotate_left
                    · intro w
                      go_simp
                      try (with_reducible rfl)
                    try simp only [Act.put, List.setIfInBounds_toArray, List.set_cons_zero, List.set_cons_succ]
                    refine till_done (by kernel_rfl) ?_ _
                    clear hHeld
                    go_wp2_with fail
                    go_meet
                    exact ⟨by rw [hoa.out]; rfl, by first | exact Below.drew (Below.refl _ _) | exact below_dn _ (Below.refl _ _)⟩
                  · obtain ⟨j, hj, hjl, pj, hpn⟩ := hpr1.out (by omega)
                    have q3 : decide (0 < k) = true := decide_eq_true (by omega)
                    have ew : IntKind.i64.wrap ((k : Int) - 1) = (j : Int) := by rw [IntKind.wrap_i64]; omega
                    have q2 : (j : Int) < (L.length : Int) := by omega
                    have hoa : oA = !decide (0 ≤ cmpL pn.toList on.toList) := by rw [hA.out, hnb, hkb, q3]; simp
                    generalize hcm : cmpL pn.toList on.toList = cm at *
                    replace hj := Lib.hid hj
                    replace hk0 := Lib.hid hk0
                    replace hnb := Lib.hid hnb
                    replace hkb := Lib.hid hkb
                    replace hcm := Lib.hid hcm
                    by_cases h9 : 0 ≤ cm
                    · rw [decide_eq_true h9] at hoa
                      replace hoa := Lib.hid hoa
                      have q5 : decide (0 ≤ cm) = true := decide_eq_true h9
                      refine tl_begin (fun (w' : World) => (w'.cell? ⟨q, 0, none⟩ = some (.string on) ∧ w'.cell? ⟨q, 1, none⟩ = some (.int .i64 ok') ∧ w'.cell? ⟨q, 2, none⟩ = some (.int .i64 ol)) ∧ w'.cell? ⟨w.heap.size, 1, none⟩ = some (.slice (some ⟨b, off, none⟩) L.length cap) ∧ w'.cell? ⟨b, off + j * 6, none⟩ = some (.string pn)) [] (by kernel_rfl) (⟨⟨c0, c1, c2⟩, x1, pj⟩) (fun hHeld => ?_)
                      refine tl_p (i := 0) (v := ?_) rfl (by rfl) (by kernel_rfl) (by kernel_rfl) (by kernel_rfl) (fun _ _ _ h => h) (by rfl) hHeld ?_ ?_
                      rotate_left
                      · intro w
                        go_simp
                        try (with_reducible rfl)
                      try simp only [Act.put, List.setIfInBounds_toArray, List.set_cons_zero, List.set_cons_succ]
                      refine tl_w (i := 1) (v := ?_) rfl (by rfl) (by kernel_rfl) (by kernel_rfl) (by kernel_rfl) (by kernel_rfl) (by kernel_rfl) (fun _ _ _ h => h) (by rfl) hHeld ?_ ?_
                      rotate_left
                      · intro w hSw
                        try dsimp only at hSw
                        go_simp
                        try (with_reducible rfl)
                      try simp only [Act.put, List.setIfInBounds_toArray, List.set_cons_zero, List.set_cons_succ]
                      refine tl_do (i := 2) rfl (by kernel_rfl) (by rfl) (fun K hK => ?_)
                      go_simp
                      go_at_call 64
                      refine (name_any _ _).mono ?_; rintro e w9 ⟨rfl, hw1⟩
                      have hw2 := hw1.symm
                      subst hw2
                      clear hw1
                      rw [hnb.out]
                      try go_wp2_with fail
                      refine hK.out _ _ (hHeld) (fun hHeld1 => ?_)
                      clear hK K hHeld
                      have hHeld := hHeld1
                      clear hHeld1
                      try simp only [Act.put, List.setIfInBounds_toArray, List.set_cons_zero, List.set_cons_succ]
                      refine tl_p (i := 3) (v := ?_) rfl (by rfl) (by kernel_rfl) (by kernel_rfl) (by kernel_rfl) (fun _ _ _ h => h) (by rfl) hHeld ?_ ?_
                      rotate_left
                      · intro w
                        go_simp
                        try (with_reducible rfl)
                      try simp only [Act.put, List.setIfInBounds_toArray, List.set_cons_zero, List.set_cons_succ]
                      refine tl_p (i := 4) (v := ?_) rfl (by rfl) (by kernel_rfl) (by kernel_rfl) (by kernel_rfl) (fun _ _ _ h => h) (by rfl) hHeld ?_ ?_
                      rotate_left
                      · intro w
                        go_simp
                        try (with_reducible rfl)
                      try simp only [Act.put, List.setIfInBounds_toArray, List.set_cons_zero, List.set_cons_succ]
                      refine tl_p (i := 5) (v := ?_) rfl (by rfl) (by kernel_rfl) (by kernel_rfl) (by kernel_rfl) (fun _ _ _ h => h) (by rfl) hHeld ?_ ?_
                      rotate_left
                      · intro w
                        go_simp
                        try (with_reducible rfl)
                      try simp only [Act.put, List.setIfInBounds_toArray, List.set_cons_zero, List.set_cons_succ]
                      refine tl_w (i := 6) (v := ?_) rfl (by rfl) (by kernel_rfl) (by kernel_rfl) (by kernel_rfl) (by kernel_rfl) (by kernel_rfl) (fun _ _ _ h => h) (by rfl) hHeld ?_ ?_
                      rotate_left
                      · intro w hSw
                        try dsimp only at hSw
                        go_simp
                        try (with_reducible rfl)
                      try simp only [Act.put, List.setIfInBounds_toArray, List.set_cons_zero, List.set_cons_succ]
                      refine tl_p (i := 7) (v := ?_) rfl (by rfl) (by kernel_rfl) (by kernel_rfl) (by kernel_rfl) (fun _ _ _ h => h) (by rfl) hHeld ?_ ?_
                      rotate_left
                      · intro w
                        go_simp
                        try (with_reducible rfl)
                      try simp only [Act.put, List.setIfInBounds_toArray, List.set_cons_zero, List.set_cons_succ]
                      refine tl_w (i := 8) (v := ?_) rfl (by rfl) (by kernel_rfl) (by kernel_rfl) (by kernel_rfl) (by kernel_rfl) (by kernel_rfl) (fun _ _ _ h => h) (by rfl) hHeld ?_ ?_
                      rotate_left
                      · intro w hSw
                        try dsimp only at hSw
                        go_simp
                        try (with_reducible rfl)
                      try simp only [Act.put, List.setIfInBounds_toArray, List.set_cons_zero, List.set_cons_succ]
                      refine tl_do (i := 9) rfl (by kernel_rfl) (by rfl) (fun K hK => ?_)
                      go_simp
                      go_at_call 65
                      refine (kind_any _ _ _).mono ?_; rintro e w9 ⟨rfl, hw1⟩
                      have hw2 := hw1.symm
                      subst hw2
                      clear hw1
                      rw [hkb.out]
                      try go_wp2_with fail
                      refine hK.out _ _ (hHeld) (fun hHeld1 => ?_)
                      clear hK K hHeld
                      have hHeld := hHeld1
                      clear hHeld1
                      try simp only [Act.put, List.setIfInBounds_toArray, List.set_cons_zero, List.set_cons_succ]
                      refine tl_p (i := 10) (v := ?_) rfl (by rfl) (by kernel_rfl) (by kernel_rfl) (by kernel_rfl) (fun _ _ _ h => h) (by rfl) hHeld ?_ ?_
                      rotate_left
                      · intro w
                        go_simp
                        try (with_reducible rfl)
                      try simp only [Act.put, List.setIfInBounds_toArray, List.set_cons_zero, List.set_cons_succ]
                      refine tl_p (i := 11) (v := ?_) rfl (by rfl) (by kernel_rfl) (by kernel_rfl) (by kernel_rfl) (fun _ _ _ h => h) (by rfl) hHeld ?_ ?_
                      rotate_left
                      · intro w
                        go_simp
                        try (with_reducible rfl)
                      try simp only [Act.put, List.setIfInBounds_toArray, List.set_cons_zero, List.set_cons_succ]
                      refine tl_p (i := 12) (v := ?_) rfl (by rfl) (by kernel_rfl) (by kernel_rfl) (by kernel_rfl) (fun _ _ _ h => h) (by rfl) hHeld ?_ ?_
                      rotate_left
                      · intro w
                        go_simp
                        try (with_reducible rfl)
                      try simp only [Act.put, List.setIfInBounds_toArray, List.set_cons_zero, List.set_cons_succ]
                      refine tl_p (i := 13) (v := ?_) rfl (by rfl) (by kernel_rfl) (by kernel_rfl) (by kernel_rfl) (fun _ _ _ h => h) (by rfl) hHeld ?_ ?_
                      rotate_left
                      · intro w
                        go_simp
                        try (with_reducible rfl)
                      try simp only [Act.put, List.setIfInBounds_toArray, List.set_cons_zero, List.set_cons_succ]
                      refine tl_p (i := 14) (v := ?_) rfl (by rfl) (by kernel_rfl) (by kernel_rfl) (by kernel_rfl) (fun _ _ _ h => h) (by rfl) hHeld ?_ ?_
                      rotate_left
                      · intro w
                        go_simp
                        try (with_reducible rfl)
                      try simp only [Act.put, List.setIfInBounds_toArray, List.set_cons_zero, List.set_cons_succ]
                      refine tl_p (i := 15) (v := ?_) rfl (by rfl) (by kernel_rfl) (by kernel_rfl) (by kernel_rfl) (fun _ _ _ h => h) (by rfl) hHeld ?_ ?_
                      rotate_left
                      · intro w
                        go_simp
                        try (with_reducible rfl)
                      try simp only [Act.put, List.setIfInBounds_toArray, List.set_cons_zero, List.set_cons_succ]
                      refine tl_p (i := 16) (v := ?_) rfl (by rfl) (by kernel_rfl) (by kernel_rfl) (by kernel_rfl) (fun _ _ _ h => h) (by rfl) hHeld ?_ ?_
                      rotate_left
                      · intro w
                        go_simp
                        try (with_reducible rfl)
                      try simp only [Act.put, List.setIfInBounds_toArray, List.set_cons_zero, List.set_cons_succ]
                      refine tl_w (i := 17) (v := ?_) rfl (by rfl) (by kernel_rfl) (by kernel_rfl) (by kernel_rfl) (by kernel_rfl) (by kernel_rfl) (fun _ _ _ h => h) (by rfl) hHeld ?_ ?_
                      rotate_left
                      · intro w hSw
                        try dsimp only at hSw
                        go_simp
                        try (with_reducible rfl)
                      try simp only [Act.put, List.setIfInBounds_toArray, List.set_cons_zero, List.set_cons_succ]
                      refine tl_p (i := 18) (v := ?_) rfl (by rfl) (by kernel_rfl) (by kernel_rfl) (by kernel_rfl) (fun _ _ _ h => h) (by rfl) hHeld ?_ ?_
                      rotate_left
                      · intro w
                        go_simp
                        try (with_reducible rfl)
                      try simp only [Act.put, List.setIfInBounds_toArray, List.set_cons_zero, List.set_cons_succ]
                      refine tl_p (i := 19) (v := ?_) rfl (by rfl) (by kernel_rfl) (by kernel_rfl) (by kernel_rfl) (fun _ _ _ h => h) (by rfl) hHeld ?_ ?_
                      rotate_left
                      · intro w
                        go_simp
                        try (with_reducible rfl)
                      try simp only [Act.put, List.setIfInBounds_toArray, List.set_cons_zero, List.set_cons_succ]
                      refine tl_p (i := 20) (v := ?_) rfl (by rfl) (by kernel_rfl) (by kernel_rfl) (by kernel_rfl) (fun _ _ _ h => h) (by rfl) hHeld ?_ ?_
                      rotate_left
                      · intro w
                        go_simp
                        try (with_reducible rfl)
                      try simp only [Act.put, List.setIfInBounds_toArray, List.set_cons_zero, List.set_cons_succ]
                      refine tl_p (i := 21) (v := ?_) rfl (by rfl) (by kernel_rfl) (by kernel_rfl) (by kernel_rfl) (fun _ _ _ h => h) (by rfl) hHeld ?_ ?_
                      rotate_left
                      · intro w
                        go_simp
                        try (with_reducible rfl)
                      try simp only [Act.put, List.setIfInBounds_toArray, List.set_cons_zero, List.set_cons_succ]
                      refine tl_w (i := 22) (v := ?_) rfl (by rfl) (by kernel_rfl) (by kernel_rfl) (by kernel_rfl) (by kernel_rfl) (by kernel_rfl) (fun _ _ _ h => h) (by rfl) hHeld ?_ ?_
                      rotate_left
                      · intro w hSw
                        try dsimp only at hSw
                        go_simp
                        try (with_reducible rfl)
                      try simp only [Act.put, List.setIfInBounds_toArray, List.set_cons_zero, List.set_cons_succ]
                      refine tl_p (i := 23) (v := ?_) rfl (by rfl) (by kernel_rfl) (by kernel_rfl) (by kernel_rfl) (fun _ _ _ h => h) (by rfl) hHeld ?_ ?_
                      rotate_left
                      · intro w
                        go_simp
                        try (with_reducible rfl)
                      try simp only [Act.put, List.setIfInBounds_toArray, List.set_cons_zero, List.set_cons_succ]
                      refine tl_w (i := 24) (v := ?_) rfl (by rfl) (by kernel_rfl) (by kernel_rfl) (by kernel_rfl) (by kernel_rfl) (by kernel_rfl) (fun _ _ _ h => h) (by rfl) hHeld ?_ ?_
                      rotate_left
                      · intro w hSw
                        try dsimp only at hSw
                        go_simp
                        try (with_reducible rfl)
                      try simp only [Act.put, List.setIfInBounds_toArray, List.set_cons_zero, List.set_cons_succ]
                      refine tl_do (i := 25) rfl (by kernel_rfl) (by rfl) (fun K hK => ?_)
                      go_simp
                      go_at_call 57
                      refine (refKeys_any _ _ _ hpn hnk).mono ?_; rintro e w9 ⟨rfl, m9, rfl⟩
                      rw [hcm.out]
                      try go_wp2_with fail
                      refine hK.out _ _ (hHeld) (fun hHeld1 => ?_)
                      clear hK K hHeld
                      have hHeld := hHeld1
                      clear hHeld1
                      try simp only [Act.put, List.setIfInBounds_toArray, List.set_cons_zero, List.set_cons_succ]
                      refine tl_p (i := 26) (v := ?_) rfl (by rfl) (by kernel_rfl) (by kernel_rfl) (by kernel_rfl) (fun _ _ _ h => h) (by rfl) hHeld ?_ ?_
                      rotate_left
                      · intro w
                        go_simp
                        try (with_reducible rfl)
                      try simp only [Act.put, List.setIfInBounds_toArray, List.set_cons_zero, List.set_cons_succ]
                      refine tl_p (i := 27) (v := ?_) rfl (by rfl) (by kernel_rfl) (by kernel_rfl) (by kernel_rfl) (fun _ _ _ h => h) (by rfl) hHeld ?_ ?_
                      rotate_left
                      · intro w
                        go_simp
                        try (with_reducible rfl)
                      try simp only [Act.put, List.setIfInBounds_toArray, List.set_cons_zero, List.set_cons_succ]
                      refine tl_p (i := 28) (v := ?_) rfl (by rfl) (by kernel_rfl) (by kernel_rfl) (by kernel_rfl) (fun _ _ _ h => h) (by rfl) hHeld ?_ ?_
                      rotate_left
                      · intro w
                        go_simp
                        try (with_reducible rfl)
                      try simp only [Act.put, List.setIfInBounds_toArray, List.set_cons_zero, List.set_cons_succ]
                      refine till_done (by kernel_rfl) ?_ _
                      clear hHeld
                      go_wp2_with fail
                      go_meet
                      exact ⟨by rw [hoa.out]; rfl, by first | exact Below.drew (Below.refl _ _) | exact below_dn _ (Below.refl _ _)⟩
                    · rw [decide_eq_false h9] at hoa
                      replace hoa := Lib.hid hoa
                      have q5 : decide (0 ≤ cm) = false := decide_eq_false h9
                      refine tl_begin (fun (w' : World) => (w'.cell? ⟨q, 0, none⟩ = some (.string on) ∧ w'.cell? ⟨q, 1, none⟩ = some (.int .i64 ok') ∧ w'.cell? ⟨q, 2, none⟩ = some (.int .i64 ol)) ∧ w'.cell? ⟨w.heap.size, 1, none⟩ = some (.slice (some ⟨b, off, none⟩) L.length cap) ∧ w'.cell? ⟨b, off + j * 6, none⟩ = some (.string pn)) [] (by kernel_rfl) (⟨⟨c0, c1, c2⟩, x1, pj⟩) (fun hHeld => ?_)
                      refine tl_p (i := 0) (v := ?_) rfl (by rfl) (by kernel_rfl) (by kernel_rfl) (by kernel_rfl) (fun _ _ _ h => h) (by rfl) hHeld ?_ ?_
                      rotate_left
                      · intro w
                        go_simp
                        try (with_reducible rfl)
                      try simp only [Act.put, List.setIfInBounds_toArray, List.set_cons_zero, List.set_cons_succ]
                      refine tl_w (i := 1) (v := ?_) rfl (by rfl) (by kernel_rfl) (by kernel_rfl) (by kernel_rfl) (by kernel_rfl) (by kernel_rfl) (fun _ _ _ h => h) (by rfl) hHeld ?_ ?_
                      rotate_left
                      · intro w hSw
                        try dsimp only at hSw
                        go_simp
                        try (with_reducible rfl)
                      try simp only [Act.put, List.setIfInBounds_toArray, List.set_cons_zero, List.set_cons_succ]
                      refine tl_do (i := 2) rfl (by kernel_rfl) (by rfl) (fun K hK => ?_)
                      go_simp
                      go_at_call 64
                      refine (name_any _ _).mono ?_; rintro e w9 ⟨rfl, hw1⟩
                      have hw2 := hw1.symm
                      subst hw2
                      clear hw1
                      rw [hnb.out]
                      try go_wp2_with fail
                      refine hK.out _ _ (hHeld) (fun hHeld1 => ?_)
                      clear hK K hHeld
                      have hHeld := hHeld1
                      clear hHeld1
                      try simp only [Act.put, List.setIfInBounds_toArray, List.set_cons_zero, List.set_cons_succ]
                      refine tl_p (i := 3) (v := ?_) rfl (by rfl) (by kernel_rfl) (by kernel_rfl) (by kernel_rfl) (fun _ _ _ h => h) (by rfl) hHeld ?_ ?_
                      rotate_left
                      · intro w
                        go_simp
                        try (with_reducible rfl)
                      try simp only [Act.put, List.setIfInBounds_toArray, List.set_cons_zero, List.set_cons_succ]
                      refine tl_p (i := 4) (v := ?_) rfl (by rfl) (by kernel_rfl) (by kernel_rfl) (by kernel_rfl) (fun _ _ _ h => h) (by rfl) hHeld ?_ ?_
                      rotate_left
                      · intro w
                        go_simp
                        try (with_reducible rfl)
                      try simp only [Act.put, List.setIfInBounds_toArray, List.set_cons_zero, List.set_cons_succ]
                      refine tl_p (i := 5) (v := ?_) rfl (by rfl) (by kernel_rfl) (by kernel_rfl) (by kernel_rfl) (fun _ _ _ h => h) (by rfl) hHeld ?_ ?_
                      rotate_left
                      · intro w
                        go_simp
                        try (with_reducible rfl)
                      try simp only [Act.put, List.setIfInBounds_toArray, List.set_cons_zero, List.set_cons_succ]
                      refine tl_w (i := 6) (v := ?_) rfl (by rfl) (by kernel_rfl) (by kernel_rfl) (by kernel_rfl) (by kernel_rfl) (by kernel_rfl) (fun _ _ _ h => h) (by rfl) hHeld ?_ ?_
                      rotate_left
                      · intro w hSw
                        try dsimp only at hSw
                        go_simp
                        try (with_reducible rfl)
                      try simp only [Act.put, List.setIfInBounds_toArray, List.set_cons_zero, List.set_cons_succ]
                      refine tl_p (i := 7) (v := ?_) rfl (by rfl) (by kernel_rfl) (by kernel_rfl) (by kernel_rfl) (fun _ _ _ h => h) (by rfl) hHeld ?_ ?_
                      rotate_left
                      · intro w
                        go_simp
                        try (with_reducible rfl)
                      try simp only [Act.put, List.setIfInBounds_toArray, List.set_cons_zero, List.set_cons_succ]
                      refine tl_w (i := 8) (v := ?_) rfl (by rfl) (by kernel_rfl) (by kernel_rfl) (by kernel_rfl) (by kernel_rfl) (by kernel_rfl) (fun _ _ _ h => h) (by rfl) hHeld ?_ ?_
                      rotate_left
                      · intro w hSw
                        try dsimp only at hSw
                        go_simp
                        try (with_reducible rfl)
                      try simp only [Act.put, List.setIfInBounds_toArray, List.set_cons_zero, List.set_cons_succ]
                      refine tl_do (i := 9) rfl (by kernel_rfl) (by rfl) (fun K hK => ?_)
                      go_simp
                      go_at_call 65
                      refine (kind_any _ _ _).mono ?_; rintro e w9 ⟨rfl, hw1⟩
                      have hw2 := hw1.symm
                      subst hw2
                      clear hw1
                      rw [hkb.out]
                      try go_wp2_with fail
                      refine hK.out _ _ (hHeld) (fun hHeld1 => ?_)
                      clear hK K hHeld
                      have hHeld := hHeld1
                      clear hHeld1
                      try simp only [Act.put, List.setIfInBounds_toArray, List.set_cons_zero, List.set_cons_succ]
                      refine tl_p (i := 10) (v := ?_) rfl (by rfl) (by kernel_rfl) (by kernel_rfl) (by kernel_rfl) (fun _ _ _ h => h) (by rfl) hHeld ?_ ?_
                      rotate_left
                      · intro w
                        go_simp
                        try (with_reducible rfl)
                      try simp only [Act.put, List.setIfInBounds_toArray, List.set_cons_zero, List.set_cons_succ]
                      refine tl_p (i := 11) (v := ?_) rfl (by rfl) (by kernel_rfl) (by kernel_rfl) (by kernel_rfl) (fun _ _ _ h => h) (by rfl) hHeld ?_ ?_
                      rotate_left
                      · intro w
                        go_simp
                        try (with_reducible rfl)
                      try simp only [Act.put, List.setIfInBounds_toArray, List.set_cons_zero, List.set_cons_succ]
                      refine tl_p (i := 12) (v := ?_) rfl (by rfl) (by kernel_rfl) (by kernel_rfl) (by kernel_rfl) (fun _ _ _ h => h) (by rfl) hHeld ?_ ?_
                      rotate_left
                      · intro w
                        go_simp
                        try (with_reducible rfl)
                      try simp only [Act.put, List.setIfInBounds_toArray, List.set_cons_zero, List.set_cons_succ]
                      refine tl_p (i := 13) (v := ?_) rfl (by rfl) (by kernel_rfl) (by kernel_rfl) (by kernel_rfl) (fun _ _ _ h => h) (by rfl) hHeld ?_ ?_
                      rotate_left
                      · intro w
                        go_simp
                        try (with_reducible rfl)
                      try simp only [Act.put, List.setIfInBounds_toArray, List.set_cons_zero, List.set_cons_succ]
                      refine tl_p (i := 14) (v := ?_) rfl (by rfl) (by kernel_rfl) (by kernel_rfl) (by kernel_rfl) (fun _ _ _ h => h) (by rfl) hHeld ?_ ?_
                      rotate_left
                      · intro w
                        go_simp
                        try (with_reducible rfl)
                      try simp only [Act.put, List.setIfInBounds_toArray, List.set_cons_zero, List.set_cons_succ]
                      refine tl_p (i := 15) (v := ?_) rfl (by rfl) (by kernel_rfl) (by kernel_rfl) (by kernel_rfl) (fun _ _ _ h => h) (by rfl) hHeld ?_ ?_
                      rotate_left
                      · intro w
                        go_simp
                        try (with_reducible rfl)
                      try simp only [Act.put, List.setIfInBounds_toArray, List.set_cons_zero, List.set_cons_succ]
                      refine tl_p (i := 16) (v := ?_) rfl (by rfl) (by kernel_rfl) (by kernel_rfl) (by kernel_rfl) (fun _ _ _ h => h) (by rfl) hHeld ?_ ?_
                      rotate_left
                      · intro w
                        go_simp
                        try (with_reducible rfl)
                      try simp only [Act.put, List.setIfInBounds_toArray, List.set_cons_zero, List.set_cons_succ]
                      refine tl_w (i := 17) (v := ?_) rfl (by rfl) (by kernel_rfl) (by kernel_rfl) (by kernel_rfl) (by kernel_rfl) (by kernel_rfl) (fun _ _ _ h => h) (by rfl) hHeld ?_ ?_
                      rotate_left
                      · intro w hSw
                        try dsimp only at hSw
                        go_simp
                        try (with_reducible rfl)
                      try simp only [Act.put, List.setIfInBounds_toArray, List.set_cons_zero, List.set_cons_succ]
                      refine tl_p (i := 18) (v := ?_) rfl (by rfl) (by kernel_rfl) (by kernel_rfl) (by kernel_rfl) (fun _ _ _ h => h) (by rfl) hHeld ?_ ?_
                      rotate_left
                      · intro w
                        go_simp
                        try (with_reducible rfl)
                      try simp only [Act.put, List.setIfInBounds_toArray, List.set_cons_zero, List.set_cons_succ]
                      refine tl_p (i := 19) (v := ?_) rfl (by rfl) (by kernel_rfl) (by kernel_rfl) (by kernel_rfl) (fun _ _ _ h => h) (by rfl) hHeld ?_ ?_
                      rotate_left
                      · intro w
                        go_simp
                        try (with_reducible rfl)
                      try simp only [Act.put, List.setIfInBounds_toArray, List.set_cons_zero, List.set_cons_succ]
                      refine tl_p (i := 20) (v := ?_) rfl (by rfl) (by kernel_rfl) (by kernel_rfl) (by kernel_rfl) (fun _ _ _ h => h) (by rfl) hHeld ?_ ?_
                      rotate_left
                      · intro w
                        go_simp
                        try (with_reducible rfl)
                      try simp only [Act.put, List.setIfInBounds_toArray, List.set_cons_zero, List.set_cons_succ]
                      refine tl_p (i := 21) (v := ?_) rfl (by rfl) (by kernel_rfl) (by kernel_rfl) (by kernel_rfl) (fun _ _ _ h => h) (by rfl) hHeld ?_ ?_
                      rotate_left
                      · intro w
                        go_simp
                        try (with_reducible rfl)
                      try simp only [Act.put, List.setIfInBounds_toArray, List.set_cons_zero, List.set_cons_succ]
                      refine tl_w (i := 22) (v := ?_) rfl (by rfl) (by kernel_rfl) (by kernel_rfl) (by kernel_rfl) (by kernel_rfl) (by kernel_rfl) (fun _ _ _ h => h) (by rfl) hHeld ?_ ?_
                      rotate_left
                      · intro w hSw
                        try dsimp only at hSw
                        go_simp
                        try (with_reducible rfl)
                      try simp only [Act.put, List.setIfInBounds_toArray, List.set_cons_zero, List.set_cons_succ]
                      refine tl_p (i := 23) (v := ?_) rfl (by rfl) (by kernel_rfl) (by kernel_rfl) (by kernel_rfl) (fun _ _ _ h => h) (by rfl) hHeld ?_ ?_
                      rotate_left
                      · intro w
                        go_simp
                        try (with_reducible rfl)
                      try simp only [Act.put, List.setIfInBounds_toArray, List.set_cons_zero, List.set_cons_succ]
                      refine tl_w (i := 24) (v := ?_) rfl (by rfl) (by kernel_rfl) (by kernel_rfl) (by kernel_rfl) (by kernel_rfl) (by kernel_rfl) (fun _ _ _ h => h) (by rfl) hHeld ?_ ?_
                      rotate_left
                      · intro w hSw
                        try dsimp only at hSw
                        go_simp
                        try (with_reducible rfl)
                      try simp only [Act.put, List.setIfInBounds_toArray, List.set_cons_zero, List.set_cons_succ]
                      refine tl_do (i := 25) rfl (by kernel_rfl) (by rfl) (fun K hK => ?_)
                      go_simp
                      go_at_call 57
                      refine (refKeys_any _ _ _ hpn hnk).mono ?_; rintro e w9 ⟨rfl, m9, rfl⟩
                      rw [hcm.out]
                      try go_wp2_with fail
                      refine hK.out _ _ (hHeld) (fun hHeld1 => ?_)
                      clear hK K hHeld
                      have hHeld := hHeld1
                      clear hHeld1
                      try simp only [Act.put, List.setIfInBounds_toArray, List.set_cons_zero, List.set_cons_succ]
                      refine tl_p (i := 26) (v := ?_) rfl (by rfl) (by kernel_rfl) (by kernel_rfl) (by kernel_rfl) (fun _ _ _ h => h) (by rfl) hHeld ?_ ?_
                      rotate_left
                      · intro w
                        go_simp
                        try (with_reducible rfl)
                      try simp only [Act.put, List.setIfInBounds_toArray, List.set_cons_zero, List.set_cons_succ]
                      refine tl_p (i := 27) (v := ?_) rfl (by rfl) (by kernel_rfl) (by kernel_rfl) (by kernel_rfl) (fun _ _ _ h => h) (by rfl) hHeld ?_ ?_
                      rotate_left
                      · intro w
                        go_simp
                        try (with_reducible rfl)
                      try simp only [Act.put, List.setIfInBounds_toArray, List.set_cons_zero, List.set_cons_succ]
                      refine tl_p (i := 28) (v := ?_) rfl (by rfl) (by kernel_rfl) (by kernel_rfl) (by kernel_rfl) (fun _ _ _ h => h) (by rfl) hHeld ?_ ?_
                      rotate_left
                      · intro w
                        go_simp
                        try (with_reducible rfl)
                      try simp only [Act.put, List.setIfInBounds_toArray, List.set_cons_zero, List.set_cons_succ]
                      refine till_done (by kernel_rfl) ?_ _
                      clear hHeld
                      go_wp2_with fail
                      go_meet
                      exact ⟨by rw [hoa.out]; rfl, by first | exact Below.drew (Below.refl _ _) | exact below_dn _ (Below.refl _ _)⟩
            case rest =>
              obtain ⟨rfl, hW⟩ := hcut
              cases oA with
              | false =>
                replace hnk2 := Lib.hid (hnk2.out rfl)
                go_wp2_with fail
                go_ret
                exact ⟨ret_bool hnk2.out.symm, hB1.out.trans (hW.mono hB1.out.size)⟩
              | true =>
                obtain ⟨W2, hW2⟩ : ∃ x, x = wc := ⟨wc, rfl⟩
                subst hW2
                have hkind : ok' = 1 ∨ ok' = 2 := by
                  have h1 := hA.out
                  have h2 : kindB ok' ol = true := by
                    cases h3 : kindB ok' ol with
                    | true => rfl
                    | false => rw [h3] at h1; simp at h1
                  unfold kindB at h2
                  simp at h2
                  rcases h2 with ⟨h2, _⟩ | ⟨⟨h2, _⟩, _⟩
                  · exact .inl h2
                  · exact .inr h2
                rw [Bool.true_and] at hst hnk2
                have hQ2 := Lib.hid (hQ.out.below hW)
                have hX2 := Lib.hid (hX1.out.below hW)
                have hB2 := Lib.hid (hB1.out.trans (hW.mono hB1.out.size))
                have hVr2 := Lib.hid (View.below hVr1.out hW)
                have hVm2 := Lib.hid (View.below hVm1.out hW)
                have hVd2 := Lib.hid (View.below hVd1.out hW)
                clear hQ hX1 hB1 hVr1 hVm1 hVd1 hW hpr1 hblA hA hoA hnk
                generalize hoBB : okB next ⟨on, ok', ol, oR, oM, oD, r', m', d'⟩ = oB at *
                have hoB3 : oB = (okK ⟨on, ok', ol, oR, oM, oD, r', m', d'⟩ && risesB oR && risesMB oM && msgsB next false oM && msgsB next true oD) := hoBB.symm
                replace hoB3 := Lib.hid hoB3
                clear hoBB
                have z1 := hQ2.out.cell 1
                have z2 := hX2.out.cell 1
                go_upto_region 9 with fail
                go_cut [114] (fun s wx => s = .bool (!oB) ∧ Below W2.heap.size W2 wx)
                case first =>
                  have hS : ∀ W', Below W2.heap.size W2 W' → (W'.cell? ⟨q, 1, none⟩ = some (.int .i64 ok') ∧ W'.cell? ⟨q, 3, none⟩ = some (.slice Ar oR.length cr) ∧ W'.cell? ⟨q, 4, none⟩ = some (.slice Am oM.length cm) ∧ W'.cell? ⟨q, 5, none⟩ = some (.slice Ad oD.length cd) ∧ W'.cell? ⟨w.heap.size, 0, none⟩ = some (.int .i64 next)) := fun W' h => ⟨(hQ2.out.below h).cell 1, (hQ2.out.below h).cell 3, (hQ2.out.below h).cell 4, (hQ2.out.below h).cell 5, (hX2.out.below h).cell 0⟩
                  have kRi := fun (W' : World) (h : Below W2.heap.size W2 W') => refRises_any W' _ oR (View.below hVr2.out h) (by omega) hRok.out
                  have kRm := fun (W' : World) (h : Below W2.heap.size W2 W') => risesMsgs_any W' _ oM (View.below hVm2.out h) (by omega)
                  have kM1 := fun (W' : World) (h : Below W2.heap.size W2 W') => messages_any W' _ oM next false (View.below hVm2.out h) (by omega)
                  have kM2 := fun (W' : World) (h : Below W2.heap.size W2 W') => messages_any W' _ oD next true (View.below hVd2.out h) (by omega)
                  have hd := Lib.hid (Below.refl W2.heap.size W2)
                  obtain ⟨y1, y3, y4, y5, y0⟩ := hS _ hd.out
                  have hqlt := hQ2.out.lt
                  have hplt := hX2.out.lt
                  generalize hri : risesB oR = bri at *
                  generalize hrm : risesMB oM = brm at *
                  generalize hm1 : msgsB next false oM = bm1 at *
                  generalize hm2 : msgsB next true oD = bm2 at *
                  clear hri hrm hm1 hm2
                  replace hS := Lib.hid hS
                  replace kRi := Lib.hid kRi
                  replace kRm := Lib.hid kRm
                  replace kM1 := Lib.hid kM1
                  replace kM2 := Lib.hid kM2
                  clear z1 z2
                  rcases hkind with hkk | hkk
                  · subst hkk
                    have ew : IntKind.i64.wrap ((oM.length : Int) + (oD.length : Int)) = ((oM.length + oD.length : Nat) : Int) := by rw [IntKind.wrap_i64]; omega
                    by_cases hs0 : 0 < oM.length + oD.length
                    · have hob : oB = false := by rw [hoB3.out]; unfold okK; simp only; rw [decide_eq_true hs0]; simp
                      replace hob := Lib.hid hob
                      generalize oM.length + oD.length = sm at *
                      have q6 : (0 : Int) < (sm : Int) := by omega
                      go_wp2_with (first | (go_at_call 14; refine (kRi.out _ hd.out).mono ?_; rintro e w4 ⟨rfl, hs4⟩; have hdA := Lib.hid (hd.out.trans (Same.below hs4)); obtain ⟨y1, y3, y4, y5, y0⟩ := hS.out _ hdA.out; have hqA := Nat.lt_of_lt_of_le hqlt hdA.out.size; have hpA := Nat.lt_of_lt_of_le hplt hdA.out.size) | (go_at_call 66; refine (kRm.out _ hdA.out).mono ?_; rintro e w5 ⟨rfl, hb5⟩; have hdB := Lib.hid (hdA.out.trans (hb5.mono hdA.out.size)); obtain ⟨y1, y3, y4, y5, y0⟩ := hS.out _ hdB.out; have hqB := Nat.lt_of_lt_of_le hqlt hdB.out.size; have hpB := Nat.lt_of_lt_of_le hplt hdB.out.size) | (go_at_call 67; have hdC9 := hdC; refine (kM2.out _ hdC.out).mono ?_; rintro e w7 ⟨rfl, hb7⟩; have hdD := Lib.hid (hdC.out.trans (hb7.mono hdC.out.size))) | (go_at_call 67; refine (kM1.out _ hdB.out).mono ?_; rintro e w6 ⟨rfl, hb6⟩; have hdC := Lib.hid (hdB.out.trans (hb6.mono hdB.out.size)); obtain ⟨y1, y3, y4, y5, y0⟩ := hS.out _ hdC.out; have hqC := Nat.lt_of_lt_of_le hqlt hdC.out.size; have hpC := Nat.lt_of_lt_of_le hplt hdC.out.size))
                      go_meet
                      exact ⟨by first | (rw [hob.out]; done) | (rw [hob.out]; rfl) | (rw [hob.out]; simp), hd.out⟩
                    · have hok : okK ⟨on, 1, ol, oR, oM, oD, r', m', d'⟩ = true := by unfold okK; simp only; rw [decide_eq_false hs0]; simp
                      generalize oM.length + oD.length = sm at *
                      have q6 : ¬ (0 : Int) < (sm : Int) := by omega
                      cases bri with
                      | false =>
                        have hob : oB = false := by rw [hoB3.out, hok]; rfl
                        replace hob := Lib.hid hob
                        go_wp2_with (first | (go_at_call 14; refine (kRi.out _ hd.out).mono ?_; rintro e w4 ⟨rfl, hs4⟩; have hdA := Lib.hid (hd.out.trans (Same.below hs4)); obtain ⟨y1, y3, y4, y5, y0⟩ := hS.out _ hdA.out; have hqA := Nat.lt_of_lt_of_le hqlt hdA.out.size; have hpA := Nat.lt_of_lt_of_le hplt hdA.out.size) | (go_at_call 66; refine (kRm.out _ hdA.out).mono ?_; rintro e w5 ⟨rfl, hb5⟩; have hdB := Lib.hid (hdA.out.trans (hb5.mono hdA.out.size)); obtain ⟨y1, y3, y4, y5, y0⟩ := hS.out _ hdB.out; have hqB := Nat.lt_of_lt_of_le hqlt hdB.out.size; have hpB := Nat.lt_of_lt_of_le hplt hdB.out.size) | (go_at_call 67; have hdC9 := hdC; refine (kM2.out _ hdC.out).mono ?_; rintro e w7 ⟨rfl, hb7⟩; have hdD := Lib.hid (hdC.out.trans (hb7.mono hdC.out.size))) | (go_at_call 67; refine (kM1.out _ hdB.out).mono ?_; rintro e w6 ⟨rfl, hb6⟩; have hdC := Lib.hid (hdB.out.trans (hb6.mono hdB.out.size)); obtain ⟨y1, y3, y4, y5, y0⟩ := hS.out _ hdC.out; have hqC := Nat.lt_of_lt_of_le hqlt hdC.out.size; have hpC := Nat.lt_of_lt_of_le hplt hdC.out.size))
                        go_meet
                        exact ⟨by first | (rw [hob.out]; done) | (rw [hob.out]; rfl) | (rw [hob.out]; simp), hdA.out⟩
                      | true =>
                        cases brm with
                        | false =>
                          have hob : oB = false := by rw [hoB3.out, hok]; rfl
                          replace hob := Lib.hid hob
                          go_wp2_with (first | (go_at_call 14; refine (kRi.out _ hd.out).mono ?_; rintro e w4 ⟨rfl, hs4⟩; have hdA := Lib.hid (hd.out.trans (Same.below hs4)); obtain ⟨y1, y3, y4, y5, y0⟩ := hS.out _ hdA.out; have hqA := Nat.lt_of_lt_of_le hqlt hdA.out.size; have hpA := Nat.lt_of_lt_of_le hplt hdA.out.size) | (go_at_call 66; refine (kRm.out _ hdA.out).mono ?_; rintro e w5 ⟨rfl, hb5⟩; have hdB := Lib.hid (hdA.out.trans (hb5.mono hdA.out.size)); obtain ⟨y1, y3, y4, y5, y0⟩ := hS.out _ hdB.out; have hqB := Nat.lt_of_lt_of_le hqlt hdB.out.size; have hpB := Nat.lt_of_lt_of_le hplt hdB.out.size) | (go_at_call 67; have hdC9 := hdC; refine (kM2.out _ hdC.out).mono ?_; rintro e w7 ⟨rfl, hb7⟩; have hdD := Lib.hid (hdC.out.trans (hb7.mono hdC.out.size))) | (go_at_call 67; refine (kM1.out _ hdB.out).mono ?_; rintro e w6 ⟨rfl, hb6⟩; have hdC := Lib.hid (hdB.out.trans (hb6.mono hdB.out.size)); obtain ⟨y1, y3, y4, y5, y0⟩ := hS.out _ hdC.out; have hqC := Nat.lt_of_lt_of_le hqlt hdC.out.size; have hpC := Nat.lt_of_lt_of_le hplt hdC.out.size))
                          go_meet
                          exact ⟨by first | (rw [hob.out]; done) | (rw [hob.out]; rfl) | (rw [hob.out]; simp), hdB.out⟩
                        | true =>
                          cases bm1 with
                          | false =>
                            have hob : oB = false := by rw [hoB3.out, hok]; rfl
                            replace hob := Lib.hid hob
                            go_wp2_with (first | (go_at_call 14; refine (kRi.out _ hd.out).mono ?_; rintro e w4 ⟨rfl, hs4⟩; have hdA := Lib.hid (hd.out.trans (Same.below hs4)); obtain ⟨y1, y3, y4, y5, y0⟩ := hS.out _ hdA.out; have hqA := Nat.lt_of_lt_of_le hqlt hdA.out.size; have hpA := Nat.lt_of_lt_of_le hplt hdA.out.size) | (go_at_call 66; refine (kRm.out _ hdA.out).mono ?_; rintro e w5 ⟨rfl, hb5⟩; have hdB := Lib.hid (hdA.out.trans (hb5.mono hdA.out.size)); obtain ⟨y1, y3, y4, y5, y0⟩ := hS.out _ hdB.out; have hqB := Nat.lt_of_lt_of_le hqlt hdB.out.size; have hpB := Nat.lt_of_lt_of_le hplt hdB.out.size) | (go_at_call 67; have hdC9 := hdC; refine (kM2.out _ hdC.out).mono ?_; rintro e w7 ⟨rfl, hb7⟩; have hdD := Lib.hid (hdC.out.trans (hb7.mono hdC.out.size))) | (go_at_call 67; refine (kM1.out _ hdB.out).mono ?_; rintro e w6 ⟨rfl, hb6⟩; have hdC := Lib.hid (hdB.out.trans (hb6.mono hdB.out.size)); obtain ⟨y1, y3, y4, y5, y0⟩ := hS.out _ hdC.out; have hqC := Nat.lt_of_lt_of_le hqlt hdC.out.size; have hpC := Nat.lt_of_lt_of_le hplt hdC.out.size))
                            go_meet
                            exact ⟨by first | (rw [hob.out]; done) | (rw [hob.out]; rfl) | (rw [hob.out]; simp), hdC.out⟩
                          | true =>
                            have hob : oB = bm2 := by rw [hoB3.out, hok]; rfl
                            replace hob := Lib.hid hob
                            go_wp2_with (first | (go_at_call 14; refine (kRi.out _ hd.out).mono ?_; rintro e w4 ⟨rfl, hs4⟩; have hdA := Lib.hid (hd.out.trans (Same.below hs4)); obtain ⟨y1, y3, y4, y5, y0⟩ := hS.out _ hdA.out; have hqA := Nat.lt_of_lt_of_le hqlt hdA.out.size; have hpA := Nat.lt_of_lt_of_le hplt hdA.out.size) | (go_at_call 66; refine (kRm.out _ hdA.out).mono ?_; rintro e w5 ⟨rfl, hb5⟩; have hdB := Lib.hid (hdA.out.trans (hb5.mono hdA.out.size)); obtain ⟨y1, y3, y4, y5, y0⟩ := hS.out _ hdB.out; have hqB := Nat.lt_of_lt_of_le hqlt hdB.out.size; have hpB := Nat.lt_of_lt_of_le hplt hdB.out.size) | (go_at_call 67; have hdC9 := hdC; refine (kM2.out _ hdC.out).mono ?_; rintro e w7 ⟨rfl, hb7⟩; have hdD := Lib.hid (hdC.out.trans (hb7.mono hdC.out.size))) | (go_at_call 67; refine (kM1.out _ hdB.out).mono ?_; rintro e w6 ⟨rfl, hb6⟩; have hdC := Lib.hid (hdB.out.trans (hb6.mono hdB.out.size)); obtain ⟨y1, y3, y4, y5, y0⟩ := hS.out _ hdC.out; have hqC := Nat.lt_of_lt_of_le hqlt hdC.out.size; have hpC := Nat.lt_of_lt_of_le hplt hdC.out.size))
                            go_meet
                            exact ⟨by first | (rw [hob.out]; done) | (rw [hob.out]; rfl) | (rw [hob.out]; simp), hdD.out⟩
                  · subst hkk
                    by_cases hs0 : 0 < oR.length
                    · have hob : oB = false := by rw [hoB3.out]; unfold okK; simp only; rw [decide_eq_true hs0]; simp
                      replace hob := Lib.hid hob
                      have q6 : (0 : Int) < (oR.length : Int) := by omega
                      go_wp2_with (first | (go_at_call 14; refine (kRi.out _ hd.out).mono ?_; rintro e w4 ⟨rfl, hs4⟩; have hdA := Lib.hid (hd.out.trans (Same.below hs4)); obtain ⟨y1, y3, y4, y5, y0⟩ := hS.out _ hdA.out; have hqA := Nat.lt_of_lt_of_le hqlt hdA.out.size; have hpA := Nat.lt_of_lt_of_le hplt hdA.out.size) | (go_at_call 66; refine (kRm.out _ hdA.out).mono ?_; rintro e w5 ⟨rfl, hb5⟩; have hdB := Lib.hid (hdA.out.trans (hb5.mono hdA.out.size)); obtain ⟨y1, y3, y4, y5, y0⟩ := hS.out _ hdB.out; have hqB := Nat.lt_of_lt_of_le hqlt hdB.out.size; have hpB := Nat.lt_of_lt_of_le hplt hdB.out.size) | (go_at_call 67; have hdC9 := hdC; refine (kM2.out _ hdC.out).mono ?_; rintro e w7 ⟨rfl, hb7⟩; have hdD := Lib.hid (hdC.out.trans (hb7.mono hdC.out.size))) | (go_at_call 67; refine (kM1.out _ hdB.out).mono ?_; rintro e w6 ⟨rfl, hb6⟩; have hdC := Lib.hid (hdB.out.trans (hb6.mono hdB.out.size)); obtain ⟨y1, y3, y4, y5, y0⟩ := hS.out _ hdC.out; have hqC := Nat.lt_of_lt_of_le hqlt hdC.out.size; have hpC := Nat.lt_of_lt_of_le hplt hdC.out.size))
                      go_meet
                      exact ⟨by first | (rw [hob.out]; done) | (rw [hob.out]; rfl) | (rw [hob.out]; simp), hd.out⟩
                    · have hok : okK ⟨on, 2, ol, oR, oM, oD, r', m', d'⟩ = true := by unfold okK; simp only; rw [decide_eq_false hs0]; simp
                      have q6 : ¬ (0 : Int) < (oR.length : Int) := by omega
                      cases bri with
                      | false =>
                        have hob : oB = false := by rw [hoB3.out, hok]; rfl
                        replace hob := Lib.hid hob
                        go_wp2_with (first | (go_at_call 14; refine (kRi.out _ hd.out).mono ?_; rintro e w4 ⟨rfl, hs4⟩; have hdA := Lib.hid (hd.out.trans (Same.below hs4)); obtain ⟨y1, y3, y4, y5, y0⟩ := hS.out _ hdA.out; have hqA := Nat.lt_of_lt_of_le hqlt hdA.out.size; have hpA := Nat.lt_of_lt_of_le hplt hdA.out.size) | (go_at_call 66; refine (kRm.out _ hdA.out).mono ?_; rintro e w5 ⟨rfl, hb5⟩; have hdB := Lib.hid (hdA.out.trans (hb5.mono hdA.out.size)); obtain ⟨y1, y3, y4, y5, y0⟩ := hS.out _ hdB.out; have hqB := Nat.lt_of_lt_of_le hqlt hdB.out.size; have hpB := Nat.lt_of_lt_of_le hplt hdB.out.size) | (go_at_call 67; have hdC9 := hdC; refine (kM2.out _ hdC.out).mono ?_; rintro e w7 ⟨rfl, hb7⟩; have hdD := Lib.hid (hdC.out.trans (hb7.mono hdC.out.size))) | (go_at_call 67; refine (kM1.out _ hdB.out).mono ?_; rintro e w6 ⟨rfl, hb6⟩; have hdC := Lib.hid (hdB.out.trans (hb6.mono hdB.out.size)); obtain ⟨y1, y3, y4, y5, y0⟩ := hS.out _ hdC.out; have hqC := Nat.lt_of_lt_of_le hqlt hdC.out.size; have hpC := Nat.lt_of_lt_of_le hplt hdC.out.size))
                        go_meet
                        exact ⟨by first | (rw [hob.out]; done) | (rw [hob.out]; rfl) | (rw [hob.out]; simp), hdA.out⟩
                      | true =>
                        cases brm with
                        | false =>
                          have hob : oB = false := by rw [hoB3.out, hok]; rfl
                          replace hob := Lib.hid hob
                          go_wp2_with (first | (go_at_call 14; refine (kRi.out _ hd.out).mono ?_; rintro e w4 ⟨rfl, hs4⟩; have hdA := Lib.hid (hd.out.trans (Same.below hs4)); obtain ⟨y1, y3, y4, y5, y0⟩ := hS.out _ hdA.out; have hqA := Nat.lt_of_lt_of_le hqlt hdA.out.size; have hpA := Nat.lt_of_lt_of_le hplt hdA.out.size) | (go_at_call 66; refine (kRm.out _ hdA.out).mono ?_; rintro e w5 ⟨rfl, hb5⟩; have hdB := Lib.hid (hdA.out.trans (hb5.mono hdA.out.size)); obtain ⟨y1, y3, y4, y5, y0⟩ := hS.out _ hdB.out; have hqB := Nat.lt_of_lt_of_le hqlt hdB.out.size; have hpB := Nat.lt_of_lt_of_le hplt hdB.out.size) | (go_at_call 67; have hdC9 := hdC; refine (kM2.out _ hdC.out).mono ?_; rintro e w7 ⟨rfl, hb7⟩; have hdD := Lib.hid (hdC.out.trans (hb7.mono hdC.out.size))) | (go_at_call 67; refine (kM1.out _ hdB.out).mono ?_; rintro e w6 ⟨rfl, hb6⟩; have hdC := Lib.hid (hdB.out.trans (hb6.mono hdB.out.size)); obtain ⟨y1, y3, y4, y5, y0⟩ := hS.out _ hdC.out; have hqC := Nat.lt_of_lt_of_le hqlt hdC.out.size; have hpC := Nat.lt_of_lt_of_le hplt hdC.out.size))
                          go_meet
                          exact ⟨by first | (rw [hob.out]; done) | (rw [hob.out]; rfl) | (rw [hob.out]; simp), hdB.out⟩
                        | true =>
                          cases bm1 with
                          | false =>
                            have hob : oB = false := by rw [hoB3.out, hok]; rfl
                            replace hob := Lib.hid hob
                            go_wp2_with (first | (go_at_call 14; refine (kRi.out _ hd.out).mono ?_; rintro e w4 ⟨rfl, hs4⟩; have hdA := Lib.hid (hd.out.trans (Same.below hs4)); obtain ⟨y1, y3, y4, y5, y0⟩ := hS.out _ hdA.out; have hqA := Nat.lt_of_lt_of_le hqlt hdA.out.size; have hpA := Nat.lt_of_lt_of_le hplt hdA.out.size) | (go_at_call 66; refine (kRm.out _ hdA.out).mono ?_; rintro e w5 ⟨rfl, hb5⟩; have hdB := Lib.hid (hdA.out.trans (hb5.mono hdA.out.size)); obtain ⟨y1, y3, y4, y5, y0⟩ := hS.out _ hdB.out; have hqB := Nat.lt_of_lt_of_le hqlt hdB.out.size; have hpB := Nat.lt_of_lt_of_le hplt hdB.out.size) | (go_at_call 67; have hdC9 := hdC; refine (kM2.out _ hdC.out).mono ?_; rintro e w7 ⟨rfl, hb7⟩; have hdD := Lib.hid (hdC.out.trans (hb7.mono hdC.out.size))) | (go_at_call 67; refine (kM1.out _ hdB.out).mono ?_; rintro e w6 ⟨rfl, hb6⟩; have hdC := Lib.hid (hdB.out.trans (hb6.mono hdB.out.size)); obtain ⟨y1, y3, y4, y5, y0⟩ := hS.out _ hdC.out; have hqC := Nat.lt_of_lt_of_le hqlt hdC.out.size; have hpC := Nat.lt_of_lt_of_le hplt hdC.out.size))
                            go_meet
                            exact ⟨by first | (rw [hob.out]; done) | (rw [hob.out]; rfl) | (rw [hob.out]; simp), hdC.out⟩
                          | true =>
                            have hob : oB = bm2 := by rw [hoB3.out, hok]; rfl
                            replace hob := Lib.hid hob
                            go_wp2_with (first | (go_at_call 14; refine (kRi.out _ hd.out).mono ?_; rintro e w4 ⟨rfl, hs4⟩; have hdA := Lib.hid (hd.out.trans (Same.below hs4)); obtain ⟨y1, y3, y4, y5, y0⟩ := hS.out _ hdA.out; have hqA := Nat.lt_of_lt_of_le hqlt hdA.out.size; have hpA := Nat.lt_of_lt_of_le hplt hdA.out.size) | (go_at_call 66; refine (kRm.out _ hdA.out).mono ?_; rintro e w5 ⟨rfl, hb5⟩; have hdB := Lib.hid (hdA.out.trans (hb5.mono hdA.out.size)); obtain ⟨y1, y3, y4, y5, y0⟩ := hS.out _ hdB.out; have hqB := Nat.lt_of_lt_of_le hqlt hdB.out.size; have hpB := Nat.lt_of_lt_of_le hplt hdB.out.size) | (go_at_call 67; have hdC9 := hdC; refine (kM2.out _ hdC.out).mono ?_; rintro e w7 ⟨rfl, hb7⟩; have hdD := Lib.hid (hdC.out.trans (hb7.mono hdC.out.size))) | (go_at_call 67; refine (kM1.out _ hdB.out).mono ?_; rintro e w6 ⟨rfl, hb6⟩; have hdC := Lib.hid (hdB.out.trans (hb6.mono hdB.out.size)); obtain ⟨y1, y3, y4, y5, y0⟩ := hS.out _ hdC.out; have hqC := Nat.lt_of_lt_of_le hqlt hdC.out.size; have hpC := Nat.lt_of_lt_of_le hplt hdC.out.size))
                            go_meet
                            exact ⟨by first | (rw [hob.out]; done) | (rw [hob.out]; rfl) | (rw [hob.out]; simp), hdD.out⟩
                case rest =>
                  obtain ⟨rfl, hW⟩ := hcut
                  cases oB with
                  | false =>
                    replace hnk2 := Lib.hid (hnk2.out rfl)
                    go_wp2_with fail
                    go_ret
                    exact ⟨ret_bool hnk2.out.symm, hB2.out.trans (hW.mono hB2.out.size)⟩
                  | true =>
                    obtain ⟨W3, hW3⟩ : ∃ x, x = wc := ⟨wc, rfl⟩
                    subst hW3
                    rw [Bool.true_and] at hst hnk2
                    have hQ3 := Lib.hid (hQ2.out.below hW)
                    have hX3 := Lib.hid (hX2.out.below hW)
                    have hB3 := Lib.hid (hB2.out.trans (hW.mono hB2.out.size))
                    have hVr3 := Lib.hid (View.below hVr2.out hW)
                    have hVm3 := Lib.hid (View.below hVm2.out hW)
                    have hVd3 := Lib.hid (View.below hVd2.out hW)
                    have hL3 := Lib.hid (hL.out.below hB3.out)
                    have hql := hQ3.out.lt
                    have hpl := hX3.out.lt
                    have hWW := Lib.hid (Below.refl W3.heap.size W3)
                    clear hQ2 hX2 hB2 hVr2 hVm2 hVd2 hW hoB3 hkind z1 z2
                    go_upto_region 12 with fail
                    go_loopw [5] (fun i wx => ∃ m : Nat, m ≤ oR.length ∧ i = .int .i64 m ∧ (∀ j (hj : j < oR.length), j < m → rightB oR[j] = true) ∧ Below W3.heap.size W3 wx) (fun i _ => oR.length - (intOf i).toNat)
                    case atStart => exact ⟨0, by omega, rfl, (fun j _ h => by omega), hWW.out⟩
                    case round =>
                      clear hWW
                      obtain ⟨m, hm9, rfl, hall9, hb⟩ := hrel
                      replace hall9 := Lib.hid hall9
                      have y3 : wr.cell? ⟨q, 3, none⟩ = some (.slice Ar oR.length cr) := (hb.cell (p := ⟨q, 3, none⟩) hql).trans (hQ3.out.cell 3)
                      have yq := Nat.lt_of_lt_of_le hql hb.size
                      by_cases hlt9 : m < oR.length
                      · have q9 : (m : Int) < (oR.length : Int) := by omega
                        obtain ⟨gb, go', gc, e, _, _, hgl, f9⟩ := rows_at (View.below hVr3.out hb) (by omega)
                        injection e with e1 e2 e3
                        subst e1
                        obtain ⟨s0, s1⟩ := f9 m hlt9
                        have hst9 : rightB oR[m] = true → ∀ j (hj : j < oR.length), j < m + 1 → rightB oR[j] = true := fun h9 j hj hjk => by
                          rcases Nat.lt_or_ge j m with h8 | h8
                          · exact hall9.out j hj h8
                          · obtain rfl : j = m := by omega
                            exact h9
                        have hno9 : rightB oR[m] = false → oR.all rightB = false := fun h9 => all_no hlt9 h9
                        have kW := rightRow_any wr oR[m]
                        replace hst9 := Lib.hid hst9
                        generalize hrb : rightB oR[m] = rb at *
                        generalize oR[m] = y at *
                        clear f9
                        cases rb with
                        | false =>
                          have h7 := hno9 rfl
                          have h8 := hnk2.out (by rw [h7]; rfl)
                          replace h8 := Lib.hid h8
                          replace kW := Lib.hid kW
                          replace hb := Lib.hid hb
                          replace hrb := Lib.hid hrb
                          clear hno9 h7
                          go_wp2_with (go_at_call 68; refine kW.out.mono ?_; rintro e w4 ⟨rfl, hb4⟩)
                          go_ret
                          exact ⟨ret_bool h8.out.symm, hB3.out.trans ((hb.out.trans (hb4.mono hb.out.size)).mono hB3.out.size)⟩
                        | true =>
                          replace hst9 := Lib.hid (hst9.out rfl)
                          replace kW := Lib.hid kW
                          replace hb := Lib.hid hb
                          replace hrb := Lib.hid hrb
                          clear hno9
                          go_wp2_with (go_at_call 68; refine kW.out.mono ?_; rintro e w4 ⟨rfl, hb4⟩)
                          go_roundw
                          case rel => exact ⟨m + 1, by omega, by go_num, hst9.out, hb.out.trans (hb4.mono hb.out.size)⟩
                          case measure => simp [intOf]; omega
                      · have hRR : oR.all rightB = true := all_yes (fun j hj => hall9.out j hj (by omega))
                        rw [hRR, Bool.true_and] at hst hnk2
                        have q9 : ¬ (m : Int) < (oR.length : Int) := by omega
                        have hb' := Lib.hid hb
                        clear hRR hall9
                        go_upto_region 17 with fail
                        clear y3 yq hb q9 hlt9 hm9
                        go_loopw [6] (fun i wx => ∃ m : Nat, m ≤ oM.length ∧ i = .int .i64 m ∧ (∀ j (hj : j < oM.length), j < m → one1 L oM[j] = true) ∧ Below W3.heap.size W3 wx) (fun i _ => oM.length - (intOf i).toNat)
                        case atStart => exact ⟨0, by omega, rfl, (fun j _ h => by omega), hb'.out⟩
                        case round =>
                          clear hb'
                          obtain ⟨m, hm9, rfl, hall9, hb⟩ := hrel
                          replace hall9 := Lib.hid hall9
                          have y3 : wr.cell? ⟨q, 4, none⟩ = some (.slice Am oM.length cm) := (hb.cell (p := ⟨q, 4, none⟩) hql).trans (hQ3.out.cell 4)
                          have yq := Nat.lt_of_lt_of_le hql hb.size
                          by_cases hlt9 : m < oM.length
                          · have q9 : (m : Int) < (oM.length : Int) := by omega
                            obtain ⟨gb, go', gc, e, _, _, hgl, f9⟩ := msgs_at (View.below hVm3.out hb) (by omega)
                            injection e with e1 e2 e3
                            subst e1
                            obtain ⟨s0, _⟩ := f9 m hlt9
                            have hst9 : one1 L oM[m] = true → ∀ j (hj : j < oM.length), j < m + 1 → one1 L oM[j] = true := fun h9 j hj hjk => by
                              rcases Nat.lt_or_ge j m with h8 | h8
                              · exact hall9.out j hj h8
                              · obtain rfl : j = m := by omega
                                exact h9
                            have hno9 : one1 L oM[m] = false → oM.all (one1 L) = false := fun h9 => all_no hlt9 h9
                            have kW := total_any wr.drew next _ L oM[m].id (hL3.out.below (Below.drew hb)) hm hf.out
                            have u0 : wr.cell? ⟨w.heap.size, 0, none⟩ = some (.int .i64 next) := (hb.cell (p := ⟨w.heap.size, 0, none⟩) hpl).trans (hX3.out.cell 0)
                            have u1 : wr.cell? ⟨w.heap.size, 1, none⟩ = some (.slice (some ⟨b, off, none⟩) L.length cap) := (hb.cell (p := ⟨w.heap.size, 1, none⟩) hpl).trans (hX3.out.cell 1)
                            have up := Nat.lt_of_lt_of_le hpl hb.size
                            rw [show one1 L oM[m] = decide ((tot oM[m].id L : Int) = 1) from rfl] at hst9 hno9
                            generalize (tot oM[m].id L : Int) = T at *
                            generalize oM[m].id = y at *
                            clear f9
                            have hbd := Lib.hid (Below.drew hb)
                            by_cases hT : T = 1
                            · subst hT
                              replace hst9 := Lib.hid (hst9 rfl)
                              replace kW := Lib.hid kW
                              clear hno9 hb
                              go_upto_region 19 with fail
                              go_region_held3 (fun (w' : World) => w'.cell? ⟨w.heap.size, 0, none⟩ = some (.int .i64 next) ∧ w'.cell? ⟨w.heap.size, 1, none⟩ = some (.slice (some ⟨b, off, none⟩) L.length cap) ∧ w'.cell? ⟨q, 4, none⟩ = some (.slice (some ⟨gb, go', none⟩) oM.length cm) ∧ w'.cell? ⟨gb, go' + m * 6, none⟩ = some (.int .i64 y)) (first | assumption | exact ⟨u0, u1, y3, s0⟩ | exact ⟨(hb4.cell (p := ⟨w.heap.size, 0, none⟩) up).trans u0, (hb4.cell (p := ⟨w.heap.size, 1, none⟩) up).trans u1, (hb4.cell (p := ⟨q, 4, none⟩) yq).trans y3, (hb4.cell (p := ⟨gb, go' + m * 6, none⟩) hgl).trans s0⟩) (first | (go_at_call 69; refine kW.out.mono ?_; rintro e w4 ⟨rfl, hb4⟩))
                              go_wp2_with fail
                              go_roundw
                              case rel => exact ⟨m + 1, by omega, by go_num, hst9.out, hbd.out.trans (hb4.mono hbd.out.size)⟩
                              case measure => simp [intOf]; omega
                            · have hT' : (T == 1) = false := beq_eq_false_iff_ne.2 hT
                              have h7 := hno9 (decide_eq_false hT)
                              have h8 := Lib.hid (hnk2.out (by first | (rw [h7]; done) | (rw [h7]; rfl)))
                              replace kW := Lib.hid kW
                              clear hno9 hb hst9 h7
                              go_upto_region 19 with fail
                              go_region_held3 (fun (w' : World) => w'.cell? ⟨w.heap.size, 0, none⟩ = some (.int .i64 next) ∧ w'.cell? ⟨w.heap.size, 1, none⟩ = some (.slice (some ⟨b, off, none⟩) L.length cap) ∧ w'.cell? ⟨q, 4, none⟩ = some (.slice (some ⟨gb, go', none⟩) oM.length cm) ∧ w'.cell? ⟨gb, go' + m * 6, none⟩ = some (.int .i64 y)) (first | assumption | exact ⟨u0, u1, y3, s0⟩ | exact ⟨(hb4.cell (p := ⟨w.heap.size, 0, none⟩) up).trans u0, (hb4.cell (p := ⟨w.heap.size, 1, none⟩) up).trans u1, (hb4.cell (p := ⟨q, 4, none⟩) yq).trans y3, (hb4.cell (p := ⟨gb, go' + m * 6, none⟩) hgl).trans s0⟩) (first | (go_at_call 69; refine kW.out.mono ?_; rintro e w4 ⟨rfl, hb4⟩))
                              go_wp2_with fail
                              go_ret
                              exact ⟨ret_bool h8.out.symm, hB3.out.trans ((hbd.out.trans (hb4.mono hbd.out.size)).mono hB3.out.size)⟩
                          · have hMM : oM.all (one1 L) = true := all_yes (fun j hj => hall9.out j hj (by omega))
                            rw [hMM, Bool.true_and] at hst hnk2
                            have q9 : ¬ (m : Int) < (oM.length : Int) := by omega
                            have hb' := Lib.hid hb
                            clear hMM hall9
                            go_upto_region 22 with fail
                            clear y3 yq hb q9 hlt9 hm9
                            go_loopw [7] (fun i wx => ∃ m : Nat, m ≤ oD.length ∧ i = .int .i64 m ∧ (∀ j (hj : j < oD.length), j < m → one1 L oD[j] = true) ∧ Below W3.heap.size W3 wx) (fun i _ => oD.length - (intOf i).toNat)
                            case atStart => exact ⟨0, by omega, rfl, (fun j _ h => by omega), hb'.out⟩
                            case round =>
                              clear hb'
                              obtain ⟨m, hm9, rfl, hall9, hb⟩ := hrel
                              replace hall9 := Lib.hid hall9
                              have y3 : wr.cell? ⟨q, 5, none⟩ = some (.slice Ad oD.length cd) := (hb.cell (p := ⟨q, 5, none⟩) hql).trans (hQ3.out.cell 5)
                              have yq := Nat.lt_of_lt_of_le hql hb.size
                              by_cases hlt9 : m < oD.length
                              · have q9 : (m : Int) < (oD.length : Int) := by omega
                                obtain ⟨gb, go', gc, e, _, _, hgl, f9⟩ := msgs_at (View.below hVd3.out hb) (by omega)
                                injection e with e1 e2 e3
                                subst e1
                                obtain ⟨s0, _⟩ := f9 m hlt9
                                have hst9 : one1 L oD[m] = true → ∀ j (hj : j < oD.length), j < m + 1 → one1 L oD[j] = true := fun h9 j hj hjk => by
                                  rcases Nat.lt_or_ge j m with h8 | h8
                                  · exact hall9.out j hj h8
                                  · obtain rfl : j = m := by omega
                                    exact h9
                                have hno9 : one1 L oD[m] = false → oD.all (one1 L) = false := fun h9 => all_no hlt9 h9
                                have kW := total_any wr.drew next _ L oD[m].id (hL3.out.below (Below.drew hb)) hm hf.out
                                have u0 : wr.cell? ⟨w.heap.size, 0, none⟩ = some (.int .i64 next) := (hb.cell (p := ⟨w.heap.size, 0, none⟩) hpl).trans (hX3.out.cell 0)
                                have u1 : wr.cell? ⟨w.heap.size, 1, none⟩ = some (.slice (some ⟨b, off, none⟩) L.length cap) := (hb.cell (p := ⟨w.heap.size, 1, none⟩) hpl).trans (hX3.out.cell 1)
                                have up := Nat.lt_of_lt_of_le hpl hb.size
                                rw [show one1 L oD[m] = decide ((tot oD[m].id L : Int) = 1) from rfl] at hst9 hno9
                                generalize (tot oD[m].id L : Int) = T at *
                                generalize oD[m].id = y at *
                                clear f9
                                have hbd := Lib.hid (Below.drew hb)
                                by_cases hT : T = 1
                                · subst hT
                                  replace hst9 := Lib.hid (hst9 rfl)
                                  replace kW := Lib.hid kW
                                  clear hno9 hb
                                  go_upto_region 24 with fail
                                  go_region_held3 (fun (w' : World) => w'.cell? ⟨w.heap.size, 0, none⟩ = some (.int .i64 next) ∧ w'.cell? ⟨w.heap.size, 1, none⟩ = some (.slice (some ⟨b, off, none⟩) L.length cap) ∧ w'.cell? ⟨q, 5, none⟩ = some (.slice (some ⟨gb, go', none⟩) oD.length cd) ∧ w'.cell? ⟨gb, go' + m * 6, none⟩ = some (.int .i64 y)) (first | assumption | exact ⟨u0, u1, y3, s0⟩ | exact ⟨(hb4.cell (p := ⟨w.heap.size, 0, none⟩) up).trans u0, (hb4.cell (p := ⟨w.heap.size, 1, none⟩) up).trans u1, (hb4.cell (p := ⟨q, 5, none⟩) yq).trans y3, (hb4.cell (p := ⟨gb, go' + m * 6, none⟩) hgl).trans s0⟩) (first | (go_at_call 69; refine kW.out.mono ?_; rintro e w4 ⟨rfl, hb4⟩))
                                  go_wp2_with fail
                                  go_roundw
                                  case rel => exact ⟨m + 1, by omega, by go_num, hst9.out, hbd.out.trans (hb4.mono hbd.out.size)⟩
                                  case measure => simp [intOf]; omega
                                · have hT' : (T == 1) = false := beq_eq_false_iff_ne.2 hT
                                  have h7 := hno9 (decide_eq_false hT)
                                  have h8 := Lib.hid (hnk2.out (by first | (rw [h7]; done) | (rw [h7]; rfl)))
                                  replace kW := Lib.hid kW
                                  clear hno9 hb hst9 h7
                                  go_upto_region 24 with fail
                                  go_region_held3 (fun (w' : World) => w'.cell? ⟨w.heap.size, 0, none⟩ = some (.int .i64 next) ∧ w'.cell? ⟨w.heap.size, 1, none⟩ = some (.slice (some ⟨b, off, none⟩) L.length cap) ∧ w'.cell? ⟨q, 5, none⟩ = some (.slice (some ⟨gb, go', none⟩) oD.length cd) ∧ w'.cell? ⟨gb, go' + m * 6, none⟩ = some (.int .i64 y)) (first | assumption | exact ⟨u0, u1, y3, s0⟩ | exact ⟨(hb4.cell (p := ⟨w.heap.size, 0, none⟩) up).trans u0, (hb4.cell (p := ⟨w.heap.size, 1, none⟩) up).trans u1, (hb4.cell (p := ⟨q, 5, none⟩) yq).trans y3, (hb4.cell (p := ⟨gb, go' + m * 6, none⟩) hgl).trans s0⟩) (first | (go_at_call 69; refine kW.out.mono ?_; rintro e w4 ⟨rfl, hb4⟩))
                                  go_wp2_with fail
                                  go_ret
                                  exact ⟨ret_bool h8.out.symm, hB3.out.trans ((hbd.out.trans (hb4.mono hbd.out.size)).mono hB3.out.size)⟩
                              · have hMM : oD.all (one1 L) = true := all_yes (fun j hj => hall9.out j hj (by omega))
                                have h9 := Lib.hid (hst.out hMM)
                                have q9 : ¬ (m : Int) < (oD.length : Int) := by omega
                                have hX9 := Lib.hid (hX3.out.below hb)
                                have hB9 := Lib.hid (hB3.out.trans (hb.mono hB3.out.size))
                                replace hb := Lib.hid hb
                                clear hMM hall9
                                go_wp2_with fail
                                go_roundw
                                case rel => exact ⟨k + 1, by omega, by go_num, h9.out, hX9.out, hB9.out⟩
                                case measure => simp [intOf]; omega
          · have hk3 : k = L.length := by omega
            subst hk3
            have hfin : rightSB next L = true := by rw [hrs.out]; exact range_yes hall.out
            have q2 : ¬ (L.length : Int) < (L.length : Int) := by omega
            replace hfin := Lib.hid hfin
            go_wp2_with fail
            go_ret
            exact ⟨ret_bool hfin.out.symm, hB⟩
      · have hR : rightSB next L = false := by unfold rightSB; rw [decide_eq_false g3]; simp
        have r1 : ¬ next < 1 := by omega
        have r2 : ¬ (1099511627776 : Int) < next := by omega
        have r3 : (20 : Int) < (L.length : Int) := by omega
        replace hR := Lib.hid hR
        replace hb0 := Lib.hid hb0
        clear hno hyes hbx hL hf hoB hnm
        go_enter Try.func27, Try.ntmps27
        go_wp2_with fail
        go_ret
        exact ⟨ret_bool hR.out.symm, hb0.out⟩
    · have hR : rightSB next L = false := by unfold rightSB; rw [decide_eq_false g2]; simp
      have r1 : ¬ next < 1 := by omega
      have r2 : (1099511627776 : Int) < next := by omega
      replace hR := Lib.hid hR
      replace hb0 := Lib.hid hb0
      clear hno hyes hbx hL hf hoB hnm
      go_enter Try.func27, Try.ntmps27
      go_wp2_with fail
      go_ret
      exact ⟨ret_bool hR.out.symm, hb0.out⟩
  · have hR : rightSB next L = false := by unfold rightSB; rw [decide_eq_false g1]; simp
    have r1 : next < 1 := by omega
    replace hR := Lib.hid hR
    replace hb0 := Lib.hid hb0
    clear hno hyes hbx hL hf hoB hnm
    go_enter Try.func27, Try.ntmps27
    go_wp2_with fail
    go_ret
    exact ⟨ret_bool hR.out.symm, hb0.out⟩
end Go.Proofs.Ytegomkgfmaclkaa
