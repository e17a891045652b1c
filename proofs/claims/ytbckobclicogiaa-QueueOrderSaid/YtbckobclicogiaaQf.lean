/-
  queue.Rises, by its contract, where messages do stand in order.
-/
import Derived.Test.YtbckobclicogiaaQc
import Derived.Maps.Own
import Derived.Deep.DeepCutAuto
import Derived.Maps.Views
set_option linter.unusedVariables false
set_option linter.unusedSimpArgs false
namespace Go.Proofs.Ytbckobclicogiaa
open Go.RowKit Go.Proofs.PosteMem Go.Maps

theorem law_int : Keyed Try.prog 3 := int_keyed Try.underlying3
theorem zero_bool (w : World) : (zeroValue 4).run Try.prog w = .ok (.bool false) w := by kernel_rfl
abbrev Own (w : World) (b n : Nat) (D : DataW Unit) : Prop := w.ownsMap Try.prog 3 (plainElem Try.prog 4) b n D
theorem own_below_map {w w' : World} {b n : Nat} {D : DataW Unit} (h : Own w b n D) (hb : Below w.heap.size w w') : Own w' b n D := by
  have hlt := h.lt
  obtain ⟨es, clock, h1, F, hs, hD⟩ := h
  exact ⟨es, clock, (hb.block b hlt).trans h1, F, hs, hD⟩
def Fresh (D : DataW Unit) (L : List Msg) (k : Nat) : Prop := ∀ id : Int, (∀ j (h : j < L.length), j < k → L[j].id ≠ id) → D.atKey (.int .i64 id) (.lit (.bool false)) = .lit (.bool false)
theorem fresh_none (L : List Msg) : Fresh (.map []) L 0 := fun id _ => rfl
theorem fresh_put {D : DataW Unit} {L : List Msg} {k : Nat} (hk : k < L.length) (h : Fresh D L k) : Fresh (D.put (.int .i64 L[k].id) (.lit (.bool true))) L (k + 1) := fun id hid => by
  have h1 := hid k hk (by omega)
  rw [atKey_put_other (by intro e; injection e with e1 e2; exact h1 e2.symm)]
  exact h id fun j hj hjk => hid j hj (by omega)
theorem own_look {w : World} {b n : Nat} {D : DataW Unit} (h : Own w b n D) {id : Int} (hw : (Lit.int .i64 id).wf = true) (hf : D.atKey (.int .i64 id) (.lit (.bool false)) = .lit (.bool false)) :
    (Instr.lookup 83 (.map (some b)) (.int .i64 id) false).run Try.prog w = .ok (.bool false) w := by
  obtain ⟨v, ps, h1, h2⟩ := h.lookup law_int Try.underlying83 (zero_bool w) (plainElem_bool Try.underlying4 false) (keyOf_int_mk Try.underlying3 hw)
  rw [hf] at h2
  have : v = .bool false := by
    unfold plainElem at h2
    rw [Try.underlying4] at h2
    cases v <;> simp at h2
    obtain ⟨rfl, _⟩ := h2
    rfl
  rw [h1, this]

set_option maxRecDepth 100000 in
set_option maxHeartbeats 8000000 in
theorem rises_sorted (w : World) (v : Value) (L : List Msg) (h : VMsgs w v L) (hm : L.length ≤ 1000000) (hs : ∀ j (h : j + 1 < L.length), ordM L[j] L[j + 1] < 0) (hd : ∀ k (hk : k < L.length) j (hj : j < L.length), j < k → L[j].id ≠ L[k].id) (hw : ∀ k (hk : k < L.length), (Lit.int .i64 L[k].id).wf = true) :
    Calls Try.prog 33 #[v] w fun e w' => e = .returned (.bool true) ∧ Below w.heap.size w w' := by
  obtain ⟨A, cap, rfl, hc, hcm⟩ := h.cells
  have hmm := @run_makeMap Try.prog
  have hmade := World.ownsMap_made (H := Unit) w Try.prog 3 (plainElem Try.prog 4)
  have hsz : (w.alloc (.map #[] 0)).heap.size = w.heap.size + 1 := by simp
  have hb0 : Below w.heap.size w (w.alloc (.map #[] 0)) := (Below.refl _ _).alloc (Nat.le_refl _) _
  replace h := Lib.hid h
  replace hs := Lib.hid hs
  replace hd := Lib.hid hd
  replace hw := Lib.hid hw
  replace hmade := Lib.hid hmade
  go_enter Try.func33, Try.ntmps33
  go_wp2_with fail
  go_loopw [9] (fun i wr => ∃ (k n : Nat) (D : DataW Unit), k ≤ L.length ∧ i = .int .i64 k ∧ n ≤ k ∧ Own wr w.heap.size n D ∧ Fresh D L k ∧ Below w.heap.size w wr) (fun i _ => L.length - (intOf i).toNat)
  case atStart => exact ⟨0, 0, _, by omega, rfl, by omega, hmade.out, fresh_none L, hb0⟩
  case round =>
    obtain ⟨k, n, D, hk, rfl, hn, ho, hF, hb⟩ := hrel
    by_cases hlt : k < L.length
    · have q1 : (k : Int) < (L.length : Int) := by omega
      obtain ⟨b, off, cap', e, _, _, hbl, f⟩ := msgs_at (View.below h.out hb) (by omega)
      injection e with e1 e2 e3
      subst e1 e3
      obtain ⟨p0, p1, p2, p3, p4, p5⟩ := f k hlt
      have hfr := hF _ fun j hj hjk => hd.out k hlt j hj hjk
      have hwk := hw.out k hlt
      have hF1 := Lib.hid (fresh_put hlt hF)
      have hkey := Lib.hid (keyOf_int_mk Try.underlying3 hwk)
      by_cases hk0 : k = 0
      · have q3 : decide (0 < k) = false := decide_eq_false (by omega)
        have q4 : ¬ (0 : Int) < (k : Int) := by omega
        clear f hF
        replace hk0 := Lib.hid hk0
        generalize L[k] = x at *
        have hox := ho.alloc (.cells x.cells.toArray 34)
        have hbox := Whole.new wr 34 x.cells.toArray
        have hS := Lib.hid (fun W (hW : Below (wr.alloc (.cells x.cells.toArray 34)).heap.size (wr.alloc (.cells x.cells.toArray 34)) W) => (⟨(hbox.below hW).cell 0, own_look (own_below_map hox hW) hwk hfr⟩ : (W.cell? ⟨wr.heap.size, 0, none⟩ = some (.int .i64 x.id)) ∧ (Instr.lookup 83 (.map (some w.heap.size)) (.int .i64 x.id) false).run Try.prog W = .ok (.bool false) W))
        have hbx := Lib.hid (hb.alloc hb.size (.cells x.cells.toArray 34))
        clear hbox
        replace hfr := Lib.hid hfr
        replace hwk := Lib.hid hwk
        replace ho := Lib.hid hox
        clear hox
        unfold Msg.cells at hS hbx
        go_upto_region 5 with fail
        refine tl_begin (fun (w' : World) => (w'.cell? ⟨wr.heap.size, 0, none⟩ = some (.int .i64 x.id)) ∧ (Instr.lookup 83 (.map (some w.heap.size)) (.int .i64 x.id) false).run Try.prog w' = .ok (.bool false) w') [] (by kernel_rfl) (hS.out _ (Below.drew (Below.refl _ _))) (fun hHeld => ?_)
        refine tl_p (i := 0) (v := ?_) rfl (by rfl) (by kernel_rfl) (by kernel_rfl) (by kernel_rfl) (fun _ _ _ h => h) (by rfl) hHeld ?_ ?_
        rotate_left
        · intro w
          go_simp
          try (with_reducible rfl)
        try simp only [Act.put, List.setIfInBounds_toArray, List.set_cons_zero, List.set_cons_succ]
        refine tl_p (i := 1) (v := ?_) rfl (by rfl) (by kernel_rfl) (by kernel_rfl) (by kernel_rfl) (fun _ _ _ h => h) (by rfl) hHeld ?_ ?_
        rotate_left
        · intro w
          go_simp
          try (with_reducible rfl)
        try simp only [Act.put, List.setIfInBounds_toArray, List.set_cons_zero, List.set_cons_succ]
        refine tl_w (i := 2) (v := ?_) rfl (by rfl) (by kernel_rfl) (by kernel_rfl) (by kernel_rfl) (by kernel_rfl) (by kernel_rfl) (fun _ _ _ h => h) (by rfl) hHeld ?_ ?_
        rotate_left
        · intro w hSw
          try dsimp only at hSw
          go_simp
          try (with_reducible rfl)
        try simp only [Act.put, List.setIfInBounds_toArray, List.set_cons_zero, List.set_cons_succ]
        refine tl_w (i := 3) (v := ?_) rfl (by rfl) (by kernel_rfl) (by kernel_rfl) (by kernel_rfl) (by kernel_rfl) (by kernel_rfl) (fun _ _ _ h => h) (by rfl) hHeld ?_ ?_
        rotate_left
        · intro w hSw
          try dsimp only at hSw
          obtain ⟨_, hSl⟩ := hSw
          go_simp
          try (with_reducible rfl)
        try simp only [Act.put, List.setIfInBounds_toArray, List.set_cons_zero, List.set_cons_succ]
        refine tl_p (i := 4) (v := ?_) rfl (by rfl) (by kernel_rfl) (by kernel_rfl) (by kernel_rfl) (fun _ _ _ h => h) (by rfl) hHeld ?_ ?_
        rotate_left
        · intro w
          go_simp
          try (with_reducible rfl)
        try simp only [Act.put, List.setIfInBounds_toArray, List.set_cons_zero, List.set_cons_succ]
        refine tl_p (i := 5) (v := ?_) rfl (by rfl) (by kernel_rfl) (by kernel_rfl) (by kernel_rfl) (fun _ _ _ h => h) (by rfl) hHeld ?_ ?_
        rotate_left
        · intro w
          go_simp
          try (with_reducible rfl)
        try simp only [Act.put, List.setIfInBounds_toArray, List.set_cons_zero, List.set_cons_succ]
        refine tl_p (i := 6) (v := ?_) rfl (by rfl) (by kernel_rfl) (by kernel_rfl) (by kernel_rfl) (fun _ _ _ h => h) (by rfl) hHeld ?_ ?_
        rotate_left
        · intro w
          go_simp
          try (with_reducible rfl)
        try simp only [Act.put, List.setIfInBounds_toArray, List.set_cons_zero, List.set_cons_succ]
        refine tl_p (i := 7) (v := ?_) rfl (by rfl) (by kernel_rfl) (by kernel_rfl) (by kernel_rfl) (fun _ _ _ h => h) (by rfl) hHeld ?_ ?_
        rotate_left
        · intro w
          go_simp
          try (with_reducible rfl)
        try simp only [Act.put, List.setIfInBounds_toArray, List.set_cons_zero, List.set_cons_succ]
        refine tl_u (i := 8) rfl (by rfl) (by kernel_rfl) (by kernel_rfl) (by kernel_rfl) (fun _ _ _ h => h) (by rfl) hHeld ?_
        try simp only [Act.put, List.setIfInBounds_toArray, List.set_cons_zero, List.set_cons_succ]
        refine tl_u (i := 9) rfl (by rfl) (by kernel_rfl) (by kernel_rfl) (by kernel_rfl) (fun _ _ _ h => h) (by rfl) hHeld ?_
        try simp only [Act.put, List.setIfInBounds_toArray, List.set_cons_zero, List.set_cons_succ]
        refine tl_u (i := 10) rfl (by rfl) (by kernel_rfl) (by kernel_rfl) (by kernel_rfl) (fun _ _ _ h => h) (by rfl) hHeld ?_
        try simp only [Act.put, List.setIfInBounds_toArray, List.set_cons_zero, List.set_cons_succ]
        refine tl_u (i := 11) rfl (by rfl) (by kernel_rfl) (by kernel_rfl) (by kernel_rfl) (fun _ _ _ h => h) (by rfl) hHeld ?_
        try simp only [Act.put, List.setIfInBounds_toArray, List.set_cons_zero, List.set_cons_succ]
        refine tl_u (i := 12) rfl (by rfl) (by kernel_rfl) (by kernel_rfl) (by kernel_rfl) (fun _ _ _ h => h) (by rfl) hHeld ?_
        try simp only [Act.put, List.setIfInBounds_toArray, List.set_cons_zero, List.set_cons_succ]
        refine tl_u (i := 13) rfl (by rfl) (by kernel_rfl) (by kernel_rfl) (by kernel_rfl) (fun _ _ _ h => h) (by rfl) hHeld ?_
        try simp only [Act.put, List.setIfInBounds_toArray, List.set_cons_zero, List.set_cons_succ]
        refine tl_u (i := 14) rfl (by rfl) (by kernel_rfl) (by kernel_rfl) (by kernel_rfl) (fun _ _ _ h => h) (by rfl) hHeld ?_
        try simp only [Act.put, List.setIfInBounds_toArray, List.set_cons_zero, List.set_cons_succ]
        refine tl_u (i := 15) rfl (by rfl) (by kernel_rfl) (by kernel_rfl) (by kernel_rfl) (fun _ _ _ h => h) (by rfl) hHeld ?_
        try simp only [Act.put, List.setIfInBounds_toArray, List.set_cons_zero, List.set_cons_succ]
        refine tl_p (i := 16) (v := ?_) rfl (by rfl) (by kernel_rfl) (by kernel_rfl) (by kernel_rfl) (fun _ _ _ h => h) (by rfl) hHeld ?_ ?_
        rotate_left
        · intro w
          go_simp
          try (with_reducible rfl)
        try simp only [Act.put, List.setIfInBounds_toArray, List.set_cons_zero, List.set_cons_succ]
        refine tl_p (i := 17) (v := ?_) rfl (by rfl) (by kernel_rfl) (by kernel_rfl) (by kernel_rfl) (fun _ _ _ h => h) (by rfl) hHeld ?_ ?_
        rotate_left
        · intro w
          go_simp
          try (with_reducible rfl)
        try simp only [Act.put, List.setIfInBounds_toArray, List.set_cons_zero, List.set_cons_succ]
        refine till_done (by kernel_rfl) ?_ _
        obtain ⟨d0, _⟩ := hS.out _ (Below.drew (Below.refl _ _))
        go_wp2_with (at_mapUpdate; refine wpList_mapUpdate_own _ rfl _ _ _ 83 rfl 3 4 law_int Try.underlying83 _ w.heap.size n D rfl ho.out (by unfold maxLen; omega) _ _ _ rfl rfl hkey.out _ [] (plainElem_bool Try.underlying4 true) ?_; intro w5 hown5 hg5)
        go_roundw
        case rel => exact ⟨k + 1, n + 1, _, by omega, by go_num, by omega, hown5, hF1.out, hbx.out.drew.grown hg5 hbx.out.size (fun j hj => by cases hj; exact Nat.le_refl _)⟩
        case measure => simp [intOf]; omega
      · obtain ⟨j, hj⟩ : ∃ j, k = j + 1 := ⟨k - 1, by omega⟩
        have hjl : j < L.length := by omega
        obtain ⟨r0, r1, r2, r3, r4, r5⟩ := f j hjl
        have q3 : decide (0 < k) = true := decide_eq_true (by omega)
        have q4 : (0 : Int) < (k : Int) := by omega
        have ew : IntKind.i64.wrap ((k : Int) - 1) = (j : Int) := by rw [IntWalk.i64_in _ (by omega)]; omega
        have q2 : (j : Int) < (L.length : Int) := by omega
        have hlt2 := hs.out j (by omega)
        have hms := Lib.hid (fun W => msgs_any L[j] L[k] W)
        clear f hF
        have hcc : ordM L[j] L[k] < 0 := by subst hj; exact hlt2
        clear hlt2
        generalize L[k] = x at *
        generalize L[j] = y at *
        generalize ordM y x = cc at *
        have q5 : ¬ (0 : Int) ≤ cc := by omega
        have q6 : decide (0 ≤ cc) = false := decide_eq_false q5
        replace hj := Lib.hid hj
        replace hk0 := Lib.hid hk0
        have hox := ho.alloc (.cells x.cells.toArray 34)
        have hbox := Whole.new wr 34 x.cells.toArray
        have hS := Lib.hid (fun W (hW : Below (wr.alloc (.cells x.cells.toArray 34)).heap.size (wr.alloc (.cells x.cells.toArray 34)) W) =>
          have hbl2 : b < (wr.alloc (.cells x.cells.toArray 34)).heap.size := by simp; omega
          have hW2 : Below wr.heap.size wr W := below_then ((Below.refl _ _).alloc (Nat.le_refl _) _) hW
          (⟨⟨⟨(hbox.below hW).cell 0, (hbox.below hW).cell 1, (hbox.below hW).cell 2, (hbox.below hW).cell 3, (hbox.below hW).cell 4, (hbox.below hW).cell 5⟩,
             (hW2.cell (p := ⟨b, _, none⟩) hbl).trans r0, (hW2.cell (p := ⟨b, _, none⟩) hbl).trans r1, (hW2.cell (p := ⟨b, _, none⟩) hbl).trans r2, (hW2.cell (p := ⟨b, _, none⟩) hbl).trans r3, (hW2.cell (p := ⟨b, _, none⟩) hbl).trans r4, (hW2.cell (p := ⟨b, _, none⟩) hbl).trans r5⟩, own_look (own_below_map hox hW) hwk hfr⟩ :
            ((W.cell? ⟨wr.heap.size, 0, none⟩ = some (.int .i64 x.id) ∧ W.cell? ⟨wr.heap.size, 1, none⟩ = some (.int .i64 x.pri) ∧ W.cell? ⟨wr.heap.size, 2, none⟩ = some (.int .i64 x.retry) ∧ W.cell? ⟨wr.heap.size, 3, none⟩ = some (.bool x.claimed) ∧ W.cell? ⟨wr.heap.size, 4, none⟩ = some (.string x.corr) ∧ W.cell? ⟨wr.heap.size, 5, none⟩ = some (.string x.body)) ∧ (W.cell? ⟨b, off + j * 6, none⟩ = some (.int .i64 y.id) ∧ W.cell? ⟨b, off + j * 6 + 1, none⟩ = some (.int .i64 y.pri) ∧ W.cell? ⟨b, off + j * 6 + 2, none⟩ = some (.int .i64 y.retry) ∧ W.cell? ⟨b, off + j * 6 + 3, none⟩ = some (.bool y.claimed) ∧ W.cell? ⟨b, off + j * 6 + 4, none⟩ = some (.string y.corr) ∧ W.cell? ⟨b, off + j * 6 + 5, none⟩ = some (.string y.body))) ∧ (Instr.lookup 83 (.map (some w.heap.size)) (.int .i64 x.id) false).run Try.prog W = .ok (.bool false) W))
        have hbx := Lib.hid (hb.alloc hb.size (.cells x.cells.toArray 34))
        clear hbox
        replace hfr := Lib.hid hfr
        replace hwk := Lib.hid hwk
        replace ho := Lib.hid hox
        clear hox r0 r1 r2 r3 r4 r5
        unfold Msg.cells at hS hbx hms
        go_upto_region 5 with fail
        clear p0 p1 p2 p3 p4 p5
        refine tl_begin (fun (w' : World) => ((w'.cell? ⟨wr.heap.size, 0, none⟩ = some (.int .i64 x.id) ∧ w'.cell? ⟨wr.heap.size, 1, none⟩ = some (.int .i64 x.pri) ∧ w'.cell? ⟨wr.heap.size, 2, none⟩ = some (.int .i64 x.retry) ∧ w'.cell? ⟨wr.heap.size, 3, none⟩ = some (.bool x.claimed) ∧ w'.cell? ⟨wr.heap.size, 4, none⟩ = some (.string x.corr) ∧ w'.cell? ⟨wr.heap.size, 5, none⟩ = some (.string x.body)) ∧ (w'.cell? ⟨b, off + j * 6, none⟩ = some (.int .i64 y.id) ∧ w'.cell? ⟨b, off + j * 6 + 1, none⟩ = some (.int .i64 y.pri) ∧ w'.cell? ⟨b, off + j * 6 + 2, none⟩ = some (.int .i64 y.retry) ∧ w'.cell? ⟨b, off + j * 6 + 3, none⟩ = some (.bool y.claimed) ∧ w'.cell? ⟨b, off + j * 6 + 4, none⟩ = some (.string y.corr) ∧ w'.cell? ⟨b, off + j * 6 + 5, none⟩ = some (.string y.body))) ∧ (Instr.lookup 83 (.map (some w.heap.size)) (.int .i64 x.id) false).run Try.prog w' = .ok (.bool false) w') [] (by kernel_rfl) (hS.out _ (Below.drew (Below.refl _ _))) (fun hHeld => ?_)
        refine tl_p (i := 0) (v := ?_) rfl (by rfl) (by kernel_rfl) (by kernel_rfl) (by kernel_rfl) (fun _ _ _ h => h) (by rfl) hHeld ?_ ?_
        rotate_left
        · intro w
          go_simp
          try (with_reducible rfl)
        try simp only [Act.put, List.setIfInBounds_toArray, List.set_cons_zero, List.set_cons_succ]
        refine tl_p (i := 1) (v := ?_) rfl (by rfl) (by kernel_rfl) (by kernel_rfl) (by kernel_rfl) (fun _ _ _ h => h) (by rfl) hHeld ?_ ?_
        rotate_left
        · intro w
          go_simp
          try (with_reducible rfl)
        try simp only [Act.put, List.setIfInBounds_toArray, List.set_cons_zero, List.set_cons_succ]
        refine tl_w (i := 2) (v := ?_) rfl (by rfl) (by kernel_rfl) (by kernel_rfl) (by kernel_rfl) (by kernel_rfl) (by kernel_rfl) (fun _ _ _ h => h) (by rfl) hHeld ?_ ?_
        rotate_left
        · intro w hSw
          try dsimp only at hSw
          go_simp
          try (with_reducible rfl)
        try simp only [Act.put, List.setIfInBounds_toArray, List.set_cons_zero, List.set_cons_succ]
        refine tl_w (i := 3) (v := ?_) rfl (by rfl) (by kernel_rfl) (by kernel_rfl) (by kernel_rfl) (by kernel_rfl) (by kernel_rfl) (fun _ _ _ h => h) (by rfl) hHeld ?_ ?_
        rotate_left
        · intro w hSw
          try dsimp only at hSw
          obtain ⟨⟨⟨hSx, _⟩, _⟩, hSl⟩ := hSw
          go_simp
          try (with_reducible rfl)
        try simp only [Act.put, List.setIfInBounds_toArray, List.set_cons_zero, List.set_cons_succ]
        refine tl_p (i := 4) (v := ?_) rfl (by rfl) (by kernel_rfl) (by kernel_rfl) (by kernel_rfl) (fun _ _ _ h => h) (by rfl) hHeld ?_ ?_
        rotate_left
        · intro w
          go_simp
          try (with_reducible rfl)
        try simp only [Act.put, List.setIfInBounds_toArray, List.set_cons_zero, List.set_cons_succ]
        refine tl_p (i := 5) (v := ?_) rfl (by rfl) (by kernel_rfl) (by kernel_rfl) (by kernel_rfl) (fun _ _ _ h => h) (by rfl) hHeld ?_ ?_
        rotate_left
        · intro w
          go_simp
          try (with_reducible rfl)
        try simp only [Act.put, List.setIfInBounds_toArray, List.set_cons_zero, List.set_cons_succ]
        refine tl_p (i := 6) (v := ?_) rfl (by rfl) (by kernel_rfl) (by kernel_rfl) (by kernel_rfl) (fun _ _ _ h => h) (by rfl) hHeld ?_ ?_
        rotate_left
        · intro w
          go_simp
          try (with_reducible rfl)
        try simp only [Act.put, List.setIfInBounds_toArray, List.set_cons_zero, List.set_cons_succ]
        refine tl_p (i := 7) (v := ?_) rfl (by rfl) (by kernel_rfl) (by kernel_rfl) (by kernel_rfl) (fun _ _ _ h => h) (by rfl) hHeld ?_ ?_
        rotate_left
        · intro w
          go_simp
          try (with_reducible rfl)
        try simp only [Act.put, List.setIfInBounds_toArray, List.set_cons_zero, List.set_cons_succ]
        refine tl_p (i := 8) (v := ?_) rfl (by rfl) (by kernel_rfl) (by kernel_rfl) (by kernel_rfl) (fun _ _ _ h => h) (by rfl) hHeld ?_ ?_
        rotate_left
        · intro w
          go_simp
          try (with_reducible rfl)
        try simp only [Act.put, List.setIfInBounds_toArray, List.set_cons_zero, List.set_cons_succ]
        refine tl_p (i := 9) (v := ?_) rfl (by rfl) (by kernel_rfl) (by kernel_rfl) (by kernel_rfl) (fun _ _ _ h => h) (by rfl) hHeld ?_ ?_
        rotate_left
        · intro w
          go_simp
          try (with_reducible rfl)
        try simp only [Act.put, List.setIfInBounds_toArray, List.set_cons_zero, List.set_cons_succ]
        refine tl_p (i := 10) (v := ?_) rfl (by rfl) (by kernel_rfl) (by kernel_rfl) (by kernel_rfl) (fun _ _ _ h => h) (by rfl) hHeld ?_ ?_
        rotate_left
        · intro w
          go_simp
          try (with_reducible rfl)
        try simp only [Act.put, List.setIfInBounds_toArray, List.set_cons_zero, List.set_cons_succ]
        refine tl_p (i := 11) (v := ?_) rfl (by rfl) (by kernel_rfl) (by kernel_rfl) (by kernel_rfl) (fun _ _ _ h => h) (by rfl) hHeld ?_ ?_
        rotate_left
        · intro w
          go_simp
          try (with_reducible rfl)
        try simp only [Act.put, List.setIfInBounds_toArray, List.set_cons_zero, List.set_cons_succ]
        refine tl_w (i := 12) (v := ?_) rfl (by rfl) (by kernel_rfl) (by kernel_rfl) (by kernel_rfl) (by kernel_rfl) (by kernel_rfl) (fun _ _ _ h => h) (by rfl) hHeld ?_ ?_
        rotate_left
        · intro w hSw
          try dsimp only at hSw
          go_simp
          try (with_reducible rfl)
        try simp only [Act.put, List.setIfInBounds_toArray, List.set_cons_zero, List.set_cons_succ]
        refine tl_w (i := 13) (v := ?_) rfl (by rfl) (by kernel_rfl) (by kernel_rfl) (by kernel_rfl) (by kernel_rfl) (by kernel_rfl) (fun _ _ _ h => h) (by rfl) hHeld ?_ ?_
        rotate_left
        · intro w hSw
          try dsimp only at hSw
          go_simp
          try (with_reducible rfl)
        try simp only [Act.put, List.setIfInBounds_toArray, List.set_cons_zero, List.set_cons_succ]
        refine tl_do (i := 14) rfl (by kernel_rfl) (by rfl) (fun K hK => ?_)
        go_simp
        go_at_call 57
        refine (hms.out _).mono ?_; rintro e w4 ⟨rfl, hb4⟩
        have hbd := Lib.hid (below_then (Below.drew (Below.refl _ _)) hb4)
        try go_wp2_with fail
        refine hK.out _ _ (hS.out _ hbd.out) (fun hHeld1 => ?_)
        clear hK K hHeld
        have hHeld := hHeld1
        clear hHeld1
        try simp only [Act.put, List.setIfInBounds_toArray, List.set_cons_zero, List.set_cons_succ]
        refine tl_p (i := 15) (v := ?_) rfl (by rfl) (by kernel_rfl) (by kernel_rfl) (by kernel_rfl) (fun _ _ _ h => h) (by rfl) hHeld ?_ ?_
        rotate_left
        · intro w
          go_simp
          try (with_reducible rfl)
        try simp only [Act.put, List.setIfInBounds_toArray, List.set_cons_zero, List.set_cons_succ]
        refine tl_p (i := 16) (v := ?_) rfl (by rfl) (by kernel_rfl) (by kernel_rfl) (by kernel_rfl) (fun _ _ _ h => h) (by rfl) hHeld ?_ ?_
        rotate_left
        · intro w
          go_simp
          try (with_reducible rfl)
        try simp only [Act.put, List.setIfInBounds_toArray, List.set_cons_zero, List.set_cons_succ]
        refine tl_p (i := 17) (v := ?_) rfl (by rfl) (by kernel_rfl) (by kernel_rfl) (by kernel_rfl) (fun _ _ _ h => h) (by rfl) hHeld ?_ ?_
        rotate_left
        · intro w
          go_simp
          try (with_reducible rfl)
        try simp only [Act.put, List.setIfInBounds_toArray, List.set_cons_zero, List.set_cons_succ]
        refine till_done (by kernel_rfl) ?_ _
        obtain ⟨⟨⟨d0, _⟩, _⟩, _⟩ := hS.out _ hbd.out
        have ho4 := own_below_map ho.out hbd.out
        have hbx4 := hbx.out.trans (hbd.out.mono hbx.out.size)
        clear hHeld
        go_wp2_with (at_mapUpdate; refine wpList_mapUpdate_own _ rfl _ _ _ 83 rfl 3 4 law_int Try.underlying83 _ w.heap.size n D rfl ho4 (by unfold maxLen; omega) _ _ _ rfl rfl hkey.out _ [] (plainElem_bool Try.underlying4 true) ?_; intro w5 hown5 hg5)
        go_roundw
        case rel => exact ⟨k + 1, n + 1, _, by omega, by go_num, by omega, hown5, hF1.out, hbx4.grown hg5 hbx4.size (fun j hj => by cases hj; exact Nat.le_refl _)⟩
        case measure => simp [intOf]; omega
    · go_wp2_with fail
      go_ret
      exact ⟨rfl, hb⟩
end Go.Proofs.Ytbckobclicogiaa
