/-
  posteref1.Msgs and posteref14.RisesMsgs, each by its contract.
-/
import Derived.Test.YtbckobclicogiaaMt
import Derived.Test.YtbckobclicogiaaSl5
import Derived.Deep.RegionHeld3
import Derived.Test.YtbckobclicogiaaTake
set_option linter.unusedVariables false
set_option linter.unusedSimpArgs false
namespace Go.Proofs.Ytbckobclicogiaa
open Go.RowKit Go.Proofs.PosteMem

def cmpM (x y : Msg) : Int := if x.pri < y.pri then -1 else if y.pri < x.pri then 1 else if x.id < y.id then -1 else if y.id < x.id then 1 else 0
set_option maxHeartbeats 4000000 in
theorem refMsgs_any (w : World) (x y : Msg) : Calls Try.prog 34 #[.agg x.cells.toArray, .agg y.cells.toArray] w fun e w' => e = .returned (.int .i64 (cmpM x y)) ∧ Below w.heap.size w w' := by
  obtain ⟨i1, p1, r1, c1, a1, b1⟩ := x
  obtain ⟨i2, p2, r2, c2, a2, b2⟩ := y
  unfold cmpM Msg.cells
  simp only
  have hp : p1 < p2 ∨ (p1 = p2 ∧ ¬ p1 < p2 ∧ ¬ p2 < p1) ∨ (p2 < p1 ∧ ¬ p1 < p2 ∧ ¬ p1 = p2) := by omega
  have hi : i1 < i2 ∨ (i1 = i2 ∧ ¬ i1 < i2 ∧ ¬ i2 < i1) ∨ (i2 < i1 ∧ ¬ i1 < i2 ∧ ¬ i1 = i2) := by omega
  rcases hp with hp | ⟨rfl, hp1, hp2⟩ | ⟨hp, hp1, hp2⟩
  · go_enter Try.func34, Try.ntmps34
    go_wp2
    go_ret
    exact ⟨by first | rfl | (rw [if_pos hp]), by (refine upd_to_below ?_; repeat (first | exact Upd.refl _ _ | refine Upd.setCell ?_ (Or.inl (by simp)) _ | refine Upd.alloc ?_ _ | refine Upd.drewN ?_ _ | refine Upd.drew ?_))⟩
  · rcases hi with hi | ⟨rfl, hi1, hi2⟩ | ⟨hi, hi1, hi2⟩
    all_goals
      go_enter Try.func34, Try.ntmps34
      go_wp2
      go_ret
      exact ⟨by first | rfl | simp [*], by (refine upd_to_below ?_; repeat (first | exact Upd.refl _ _ | refine Upd.setCell ?_ (Or.inl (by simp)) _ | refine Upd.alloc ?_ _ | refine Upd.drewN ?_ _ | refine Upd.drew ?_))⟩
  · have hq : (p1 == p2) = false := beq_eq_false_iff_ne.2 hp2
    go_enter Try.func34, Try.ntmps34
    go_wp2
    go_ret
    exact ⟨by first | rfl | simp [*], by (refine upd_to_below ?_; repeat (first | exact Upd.refl _ _ | refine Upd.setCell ?_ (Or.inl (by simp)) _ | refine Upd.alloc ?_ _ | refine Upd.drewN ?_ _ | refine Upd.drew ?_))⟩

def Once (L : List Msg) : Prop := ∀ k (h : k < L.length), idxI (byId L[k].id) L = k
theorem idxI_le {L : List Msg} {k : Nat} (h : k < L.length) : 0 ≤ idxI (byId L[k].id) L ∧ idxI (byId L[k].id) L ≤ k := by
  have hle : L.findIdx (byId L[k].id) ≤ k := by
    rcases Nat.lt_or_ge k (L.findIdx (byId L[k].id)) with h1 | h1
    · have := List.not_of_lt_findIdx h1
      simp [byId] at this
    · exact h1
  unfold idxI
  rw [if_pos (by omega)]
  omega
set_option maxRecDepth 100000 in
set_option maxHeartbeats 8000000 in
theorem rises_any (w : World) (v : Value) (L : List Msg) (h : VMsgs w v L) (hm : L.length ≤ 1000000) :
    Calls Try.prog 18 #[v] w fun e w' => (∃ b : Bool, e = .returned (.bool b) ∧ (b = true → Once L)) ∧ Below w.heap.size w w' := by
  obtain ⟨A, cap, rfl, hc, _⟩ := h.cells
  replace h := Lib.hid h
  go_enter Try.func18, Try.ntmps18
  go_wp2_with fail
  go_loopw [3] (fun i wr => ∃ k : Nat, k ≤ L.length ∧ i = .int .i64 k ∧ (∀ j (h : j < L.length), j < k → idxI (byId L[j].id) L = j) ∧ Below w.heap.size w wr) (fun i _ => L.length - (intOf i).toNat)
  case atStart => exact ⟨0, by omega, rfl, fun j _ h => by omega, Below.refl _ _⟩
  case round =>
    obtain ⟨k, hk, rfl, hall, hb⟩ := hrel
    replace hall := Lib.hid hall
    by_cases hlt : k < L.length
    · have q1 : (k : Int) < (L.length : Int) := by omega
      have hv := View.below h.out hb
      obtain ⟨b, off, cap', e, _, _, hbl, f⟩ := msgs_at hv (by omega)
      injection e with e1 e2 e3
      subst e1 e3
      obtain ⟨p0, p1, p2, p3, p4, p5⟩ := f k hlt
      have hst : idxI (byId L[k].id) L = k → ∀ j (h : j < L.length), j < k + 1 → idxI (byId L[j].id) L = j := fun h9 j hj hjk => by
        rcases Nat.lt_or_ge j k with h8 | h8
        · exact hall.out j hj h8
        · obtain rfl : j = k := by omega
          exact h9
      have hle := idxI_le hlt
      have hfm := Lib.hid (fun W (hvW : VMsgs W (.slice (some ⟨b, off, none⟩) L.length cap) L) => findMsg_any W _ L L[k].id hvW hm)
      replace hst := Lib.hid hst
      by_cases hk0 : k = 0
      · have q3 : decide (0 < k) = false := decide_eq_false (by omega)
        have hei : idxI (byId L[k].id) L = k := by omega
        replace hst := Lib.hid (hst.out hei)
        rw [hei] at hfm
        clear hei hle p1 p2 p3 p4 p5 f
        have q4 : ¬ (k : Int) < (k : Int) := by omega
        replace hk0 := Lib.hid hk0
        generalize L[k].id = x at *
        go_wp2_with fail
        go_quiet ((go_at_call 41; exact quiet_at (hfm.out _ (View.drewN hv _)) ⟨_, rfl⟩))
        go_wp2_with fail
        go_roundw
        case rel => exact ⟨k + 1, by omega, by go_num, hst.out, below_dn _ hb⟩
        case measure => simp [intOf]; omega
      · obtain ⟨j, hj⟩ : ∃ j, k = j + 1 := ⟨k - 1, by omega⟩
        have hjl : j < L.length := by omega
        obtain ⟨r0, r1, r2, r3, r4, r5⟩ := f j hjl
        have q3 : decide (0 < k) = true := decide_eq_true (by omega)
        have ew : IntKind.i64.wrap ((k : Int) - 1) = (j : Int) := by rw [IntWalk.i64_in _ (by omega)]; omega
        have q2 : (j : Int) < (L.length : Int) := by omega
        have hms := Lib.hid (fun W => refMsgs_any W L[j] L[k])
        clear f
        unfold Msg.cells at hms
        generalize hcc : cmpM L[j] L[k] = cc at hms
        clear hcc
        generalize hci : idxI (byId L[k].id) L = ci at *
        clear hci
        generalize L[k] = x at *
        generalize L[j] = y at *
        replace hj := Lib.hid hj
        replace hk0 := Lib.hid hk0
        have hS : ∀ W, Below wr.heap.size wr W → (W.cell? ⟨b, off + k * 6, none⟩ = some (.int .i64 x.id) ∧ W.cell? ⟨b, off + k * 6 + 1, none⟩ = some (.int .i64 x.pri) ∧ W.cell? ⟨b, off + k * 6 + 2, none⟩ = some (.int .i64 x.retry) ∧ W.cell? ⟨b, off + k * 6 + 3, none⟩ = some (.bool x.claimed) ∧ W.cell? ⟨b, off + k * 6 + 4, none⟩ = some (.string x.corr) ∧ W.cell? ⟨b, off + k * 6 + 5, none⟩ = some (.string x.body)) ∧ (W.cell? ⟨b, off + j * 6, none⟩ = some (.int .i64 y.id) ∧ W.cell? ⟨b, off + j * 6 + 1, none⟩ = some (.int .i64 y.pri) ∧ W.cell? ⟨b, off + j * 6 + 2, none⟩ = some (.int .i64 y.retry) ∧ W.cell? ⟨b, off + j * 6 + 3, none⟩ = some (.bool y.claimed) ∧ W.cell? ⟨b, off + j * 6 + 4, none⟩ = some (.string y.corr) ∧ W.cell? ⟨b, off + j * 6 + 5, none⟩ = some (.string y.body)) := fun W hW =>
          ⟨⟨(hW.cell (p := ⟨b, _, none⟩) hbl).trans p0, (hW.cell (p := ⟨b, _, none⟩) hbl).trans p1, (hW.cell (p := ⟨b, _, none⟩) hbl).trans p2, (hW.cell (p := ⟨b, _, none⟩) hbl).trans p3, (hW.cell (p := ⟨b, _, none⟩) hbl).trans p4, (hW.cell (p := ⟨b, _, none⟩) hbl).trans p5⟩, (hW.cell (p := ⟨b, _, none⟩) hbl).trans r0, (hW.cell (p := ⟨b, _, none⟩) hbl).trans r1, (hW.cell (p := ⟨b, _, none⟩) hbl).trans r2, (hW.cell (p := ⟨b, _, none⟩) hbl).trans r3, (hW.cell (p := ⟨b, _, none⟩) hbl).trans r4, (hW.cell (p := ⟨b, _, none⟩) hbl).trans r5⟩
        replace hS := Lib.hid hS
        by_cases h0 : 0 ≤ cc
        · have q5 : decide (0 ≤ cc) = true := decide_eq_true h0
          go_wp2_with fail
          clear p0 p1 p2 p3 p4 p5 r0 r1 r2 r3 r4 r5 hle
          have hd : Below wr.heap.size wr wr.drew := Below.drew (Below.refl _ _)
          refine wp_region_held_drew (S := fun (w' : World) => (w'.cell? ⟨b, off + k * 6, none⟩ = some (.int .i64 x.id) ∧ w'.cell? ⟨b, off + k * 6 + 1, none⟩ = some (.int .i64 x.pri) ∧ w'.cell? ⟨b, off + k * 6 + 2, none⟩ = some (.int .i64 x.retry) ∧ w'.cell? ⟨b, off + k * 6 + 3, none⟩ = some (.bool x.claimed) ∧ w'.cell? ⟨b, off + k * 6 + 4, none⟩ = some (.string x.corr) ∧ w'.cell? ⟨b, off + k * 6 + 5, none⟩ = some (.string x.body)) ∧ (w'.cell? ⟨b, off + j * 6, none⟩ = some (.int .i64 y.id) ∧ w'.cell? ⟨b, off + j * 6 + 1, none⟩ = some (.int .i64 y.pri) ∧ w'.cell? ⟨b, off + j * 6 + 2, none⟩ = some (.int .i64 y.retry) ∧ w'.cell? ⟨b, off + j * 6 + 3, none⟩ = some (.bool y.claimed) ∧ w'.cell? ⟨b, off + j * 6 + 4, none⟩ = some (.string y.corr) ∧ w'.cell? ⟨b, off + j * 6 + 5, none⟩ = some (.string y.body))) (by kernel_rfl) (hS.out _ hd) (fun hHeld => ?_)
          refine take_w (i := 0) (v := ?_) rfl (by kernel_rfl) (by kernel_rfl) (by kernel_rfl) (fun _ _ _ h => h) (by rfl) hHeld ?_ ?_
          rotate_left
          · intro w hSw
            try dsimp only at hSw
            go_simp
            try (with_reducible rfl)
          simp only [Act.put, List.setIfInBounds_toArray, List.set_cons_zero, List.set_cons_succ]
          refine take_w (i := 1) (v := ?_) rfl (by kernel_rfl) (by kernel_rfl) (by kernel_rfl) (fun _ _ _ h => h) (by rfl) hHeld ?_ ?_
          rotate_left
          · intro w hSw
            try dsimp only at hSw
            go_simp
            try (with_reducible rfl)
          simp only [Act.put, List.setIfInBounds_toArray, List.set_cons_zero, List.set_cons_succ]
          refine take_w (i := 2) (v := ?_) rfl (by kernel_rfl) (by kernel_rfl) (by kernel_rfl) (fun _ _ _ h => h) (by rfl) hHeld ?_ ?_
          rotate_left
          · intro w hSw
            try dsimp only at hSw
            go_simp
            try (with_reducible rfl)
          simp only [Act.put, List.setIfInBounds_toArray, List.set_cons_zero, List.set_cons_succ]
          refine take_w (i := 3) (v := ?_) rfl (by kernel_rfl) (by kernel_rfl) (by kernel_rfl) (fun _ _ _ h => h) (by rfl) hHeld ?_ ?_
          rotate_left
          · intro w hSw
            try dsimp only at hSw
            go_simp
            try (with_reducible rfl)
          simp only [Act.put, List.setIfInBounds_toArray, List.set_cons_zero, List.set_cons_succ]
          refine take_w (i := 4) (v := ?_) rfl (by kernel_rfl) (by kernel_rfl) (by kernel_rfl) (fun _ _ _ h => h) (by rfl) hHeld ?_ ?_
          rotate_left
          · intro w hSw
            try dsimp only at hSw
            go_simp
            try (with_reducible rfl)
          simp only [Act.put, List.setIfInBounds_toArray, List.set_cons_zero, List.set_cons_succ]
          refine take_w (i := 5) (v := ?_) rfl (by kernel_rfl) (by kernel_rfl) (by kernel_rfl) (fun _ _ _ h => h) (by rfl) hHeld ?_ ?_
          rotate_left
          · intro w hSw
            try dsimp only at hSw
            go_simp
            try (with_reducible rfl)
          simp only [Act.put, List.setIfInBounds_toArray, List.set_cons_zero, List.set_cons_succ]
          refine take_w (i := 6) (v := ?_) rfl (by kernel_rfl) (by kernel_rfl) (by kernel_rfl) (fun _ _ _ h => h) (by rfl) hHeld ?_ ?_
          rotate_left
          · intro w hSw
            try dsimp only at hSw
            go_simp
            try (with_reducible rfl)
          simp only [Act.put, List.setIfInBounds_toArray, List.set_cons_zero, List.set_cons_succ]
          refine take_w (i := 7) (v := ?_) rfl (by kernel_rfl) (by kernel_rfl) (by kernel_rfl) (fun _ _ _ h => h) (by rfl) hHeld ?_ ?_
          rotate_left
          · intro w hSw
            try dsimp only at hSw
            go_simp
            try (with_reducible rfl)
          simp only [Act.put, List.setIfInBounds_toArray, List.set_cons_zero, List.set_cons_succ]
          refine take_w (i := 8) (v := ?_) rfl (by kernel_rfl) (by kernel_rfl) (by kernel_rfl) (fun _ _ _ h => h) (by rfl) hHeld ?_ ?_
          rotate_left
          · intro w hSw
            try dsimp only at hSw
            go_simp
            try (with_reducible rfl)
          simp only [Act.put, List.setIfInBounds_toArray, List.set_cons_zero, List.set_cons_succ]
          refine take_w (i := 9) (v := ?_) rfl (by kernel_rfl) (by kernel_rfl) (by kernel_rfl) (fun _ _ _ h => h) (by rfl) hHeld ?_ ?_
          rotate_left
          · intro w hSw
            try dsimp only at hSw
            go_simp
            try (with_reducible rfl)
          simp only [Act.put, List.setIfInBounds_toArray, List.set_cons_zero, List.set_cons_succ]
          refine take_w (i := 10) (v := ?_) rfl (by kernel_rfl) (by kernel_rfl) (by kernel_rfl) (fun _ _ _ h => h) (by rfl) hHeld ?_ ?_
          rotate_left
          · intro w hSw
            try dsimp only at hSw
            go_simp
            try (with_reducible rfl)
          simp only [Act.put, List.setIfInBounds_toArray, List.set_cons_zero, List.set_cons_succ]
          refine take_w (i := 11) (v := ?_) rfl (by kernel_rfl) (by kernel_rfl) (by kernel_rfl) (fun _ _ _ h => h) (by rfl) hHeld ?_ ?_
          rotate_left
          · intro w hSw
            try dsimp only at hSw
            go_simp
            try (with_reducible rfl)
          simp only [Act.put, List.setIfInBounds_toArray, List.set_cons_zero, List.set_cons_succ]
          refine take_call (i := 12) rfl (by kernel_rfl) (by rfl) (fun K hK => ?_)
          go_simp
          go_at_call 34
          refine (hms.out _).mono ?_; rintro e w4 ⟨rfl, hb4⟩
          try go_wp2_with fail
          refine hK.out _ _ (hS.out _ (below_then hd hb4)) (fun hHeld4 => ?_)
          clear hK K hHeld
          have hHeld := hHeld4
          try simp only [Act.put, List.setIfInBounds_toArray, List.set_cons_zero, List.set_cons_succ]
          refine take_w (i := 13) (v := ?_) rfl (by kernel_rfl) (by kernel_rfl) (by kernel_rfl) (fun _ _ _ h => h) (by rfl) hHeld ?_ ?_
          rotate_left
          · intro w hSw
            try dsimp only at hSw
            go_simp
            try (with_reducible rfl)
          simp only [Act.put, List.setIfInBounds_toArray, List.set_cons_zero, List.set_cons_succ]
          refine take_w (i := 14) (v := ?_) rfl (by kernel_rfl) (by kernel_rfl) (by kernel_rfl) (fun _ _ _ h => h) (by rfl) hHeld ?_ ?_
          rotate_left
          · intro w hSw
            try dsimp only at hSw
            go_simp
            try (with_reducible rfl)
          simp only [Act.put, List.setIfInBounds_toArray, List.set_cons_zero, List.set_cons_succ]
          refine take_w (i := 15) (v := ?_) rfl (by kernel_rfl) (by kernel_rfl) (by kernel_rfl) (fun _ _ _ h => h) (by rfl) hHeld ?_ ?_
          rotate_left
          · intro w hSw
            try dsimp only at hSw
            go_simp
            try (with_reducible rfl)
          simp only [Act.put, List.setIfInBounds_toArray, List.set_cons_zero, List.set_cons_succ]
          refine take_u (i := 16) rfl (by kernel_rfl) (by kernel_rfl) (by kernel_rfl) (fun _ _ _ h => h) (by rfl) hHeld ?_
          simp only [Act.put, List.setIfInBounds_toArray, List.set_cons_zero, List.set_cons_succ]
          refine take_u (i := 17) rfl (by kernel_rfl) (by kernel_rfl) (by kernel_rfl) (fun _ _ _ h => h) (by rfl) hHeld ?_
          simp only [Act.put, List.setIfInBounds_toArray, List.set_cons_zero, List.set_cons_succ]
          refine take_u (i := 18) rfl (by kernel_rfl) (by kernel_rfl) (by kernel_rfl) (fun _ _ _ h => h) (by rfl) hHeld ?_
          simp only [Act.put, List.setIfInBounds_toArray, List.set_cons_zero, List.set_cons_succ]
          refine take_u (i := 19) rfl (by kernel_rfl) (by kernel_rfl) (by kernel_rfl) (fun _ _ _ h => h) (by rfl) hHeld ?_
          simp only [Act.put, List.setIfInBounds_toArray, List.set_cons_zero, List.set_cons_succ]
          refine take_u (i := 20) rfl (by kernel_rfl) (by kernel_rfl) (by kernel_rfl) (fun _ _ _ h => h) (by rfl) hHeld ?_
          simp only [Act.put, List.setIfInBounds_toArray, List.set_cons_zero, List.set_cons_succ]
          refine take_u (i := 21) rfl (by kernel_rfl) (by kernel_rfl) (by kernel_rfl) (fun _ _ _ h => h) (by rfl) hHeld ?_
          simp only [Act.put, List.setIfInBounds_toArray, List.set_cons_zero, List.set_cons_succ]
          refine take_u (i := 22) rfl (by kernel_rfl) (by kernel_rfl) (by kernel_rfl) (fun _ _ _ h => h) (by rfl) hHeld ?_
          simp only [Act.put, List.setIfInBounds_toArray, List.set_cons_zero, List.set_cons_succ]
          refine take_u (i := 23) rfl (by kernel_rfl) (by kernel_rfl) (by kernel_rfl) (fun _ _ _ h => h) (by rfl) hHeld ?_
          simp only [Act.put, List.setIfInBounds_toArray, List.set_cons_zero, List.set_cons_succ]
          refine take_u (i := 24) rfl (by kernel_rfl) (by kernel_rfl) (by kernel_rfl) (fun _ _ _ h => h) (by rfl) hHeld ?_
          simp only [Act.put, List.setIfInBounds_toArray, List.set_cons_zero, List.set_cons_succ]
          refine take_w (i := 25) (v := ?_) rfl (by kernel_rfl) (by kernel_rfl) (by kernel_rfl) (fun _ _ _ h => h) (by rfl) hHeld ?_ ?_
          rotate_left
          · intro w hSw
            try dsimp only at hSw
            go_simp
            try (with_reducible rfl)
          simp only [Act.put, List.setIfInBounds_toArray, List.set_cons_zero, List.set_cons_succ]
          refine wpAnyH_done (by kernel_rfl) ?_ _
          go_wp2_with fail
          go_ret
          exact ⟨⟨false, rfl, fun h => (by cases h)⟩, below_then hb (below_then hd hb4)⟩
        · have q5 : decide (0 ≤ cc) = false := decide_eq_false h0
          have hd : Below wr.heap.size wr wr.drew := Below.drew (Below.refl _ _)
          go_wp2_with fail
          go_region_held3 (fun (w' : World) => (w'.cell? ⟨b, off + k * 6, none⟩ = some (.int .i64 x.id) ∧ w'.cell? ⟨b, off + k * 6 + 1, none⟩ = some (.int .i64 x.pri) ∧ w'.cell? ⟨b, off + k * 6 + 2, none⟩ = some (.int .i64 x.retry) ∧ w'.cell? ⟨b, off + k * 6 + 3, none⟩ = some (.bool x.claimed) ∧ w'.cell? ⟨b, off + k * 6 + 4, none⟩ = some (.string x.corr) ∧ w'.cell? ⟨b, off + k * 6 + 5, none⟩ = some (.string x.body)) ∧ (w'.cell? ⟨b, off + j * 6, none⟩ = some (.int .i64 y.id) ∧ w'.cell? ⟨b, off + j * 6 + 1, none⟩ = some (.int .i64 y.pri) ∧ w'.cell? ⟨b, off + j * 6 + 2, none⟩ = some (.int .i64 y.retry) ∧ w'.cell? ⟨b, off + j * 6 + 3, none⟩ = some (.bool y.claimed) ∧ w'.cell? ⟨b, off + j * 6 + 4, none⟩ = some (.string y.corr) ∧ w'.cell? ⟨b, off + j * 6 + 5, none⟩ = some (.string y.body)))
            (first | assumption | exact hS.out _ (by first | exact Below.drew (Below.refl _ _) | exact below_dn _ (Below.refl _ _) | exact hd))
            (first
              | (go_at_call 34; refine (hms.out _).mono ?_; rintro e w4 ⟨rfl, hb4⟩; first | replace hd := below_then hd hb4 | replace hd := below_then (below_dn _ (Below.refl wr.heap.size wr)) hb4)
              | (go_at_call 41; refine (hfm.out _ (View.below hv hd)).mono ?_; rintro e w5 ⟨rfl, rfl⟩))
          all_goals
            by_cases h7 : ci < (k : Int)
            · go_wp2_with fail
              go_ret
              exact ⟨⟨false, rfl, fun h => (by cases h)⟩, below_then hb hd⟩
            · have hei : ci = (k : Int) := by omega
              replace hst := Lib.hid (hst.out hei)
              replace hei := Lib.hid hei
              go_wp2_with fail
              go_roundw
              case rel => exact ⟨k + 1, by omega, by go_num, hst.out, below_then hb hd⟩
              case measure => simp [intOf]; omega
    · go_wp2_with fail
      go_ret
      exact ⟨⟨true, rfl, fun _ j hj => hall.out j hj (by omega)⟩, hb⟩
end Go.Proofs.Ytbckobclicogiaa
