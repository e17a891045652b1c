/-
  TxnSees: its walk.
-/
import Derived.Test.YtegomkgfmaclkaaVk
import Derived.Test.YtegomkgfmaclkaaVh
import Derived.Test.YtegomkgfmaclkaaTill
set_option linter.unusedVariables false
set_option linter.unusedSimpArgs false
namespace Go.Proofs.Ytegomkgfmaclkaa
open Go.RowKit Go.Proofs.PosteOrd Go.Proofs.PosteMem Go.Proofs.PosteOpen

theorem rises_srt {L : List Row} (h : Rises L) : Srt L := rises_pairwise h
/-- A right state's rows stand in their order. -/
theorem right_srt {next : Int} {L : List Ob} (h : rightSB next L = true) : ∀ o ∈ L, Srt o.rows := fun o ho => by
  obtain ⟨i, hi, rfl⟩ := List.getElem_of_mem ho
  unfold rightSB at h
  simp only [Bool.and_eq_true] at h
  have h2 := List.all_eq_true.1 h.2 i (List.mem_range.2 hi)
  unfold okO at h2
  simp only [Bool.and_eq_true] at h2
  have h3 := h2.1.1.1.2
  rw [getD_in hi] at h3
  unfold okB at h3
  simp only [Bool.and_eq_true] at h3
  exact rises_srt ((risesB_iff _).1 h3.1.1.1.2)

set_option maxRecDepth 100000 in
set_option maxHeartbeats 8000000 in
theorem txnSees_core (w : World) (next : Int) (v : Value) (L : List Ob) (wv : Value) (E : List Ef) (table key from' to' : ByteArray) (tried : Bool) (hL : VObs w v L) (hok : ∀ o ∈ L, o.ok) (hlen : L.length ≤ 140737488351232) (hE : VEfs w wv E) (hEk : ∀ e ∈ E, e.obj.size ≤ 140737488351232 ∧ e.key.size ≤ 140737488351232)
    (hk1 : table.size ≤ 140737488351232) (hk2 : key.size ≤ 140737488351232) (hk3 : from'.size ≤ 140737488351232) (hk4 : to'.size ≤ 140737488351232) :
    Calls Try.prog 8 #[.agg #[.int .i64 next, v], wv, .string table, .string key, .string from', .string to', .bool tried] w fun e w' => e = .returned (.bool true) ∧ Below w.heap.size w w' := by
  obtain ⟨i0, hi0, hz0, hz1, hz2⟩ := info_parts infoEf
  obtain ⟨A, cap, rfl, hc, _⟩ := hL.view.cells
  obtain ⟨A2, cap2, rfl, hc2, _⟩ := hE.cells
  have hbx0 := Lib.hid (Whole.new w 45 #[.int .i64 next, .slice A L.length cap])
  have hb0 := Lib.hid ((Below.refl w.heap.size w).alloc (Nat.le_refl _) (.cells #[.int .i64 next, .slice A L.length cap] 45))
  replace hL := Lib.hid hL
  replace hok := Lib.hid hok
  replace hE := Lib.hid hE
  replace hEk := Lib.hid hEk
  go_enter Try.func8, Try.ntmps8
  go_wp2_with fail
  refine (alive23 _).mono ?_; rintro e w1 ⟨rfl, hb1⟩
  have hbx1 := Lib.hid (hbx0.out.below hb1)
  have hB1 := Lib.hid (below_then hb0.out hb1)
  have d0 := hbx1.out.cell 0
  have d1 := hbx1.out.cell 1
  have dl := hbx1.out.lt
  have kF := Lib.hid (few_any w1 next _ L (hL.out.below hB1.out) hok.out hlen)
  clear hbx0 hb0 hb1
  go_wp2_with fail
  refine kF.out.mono ?_; rintro e w2 ⟨⟨b, rfl, hfew⟩, hb2⟩
  have hbx2 := Lib.hid (hbx1.out.below hb2)
  have hB2 := Lib.hid (below_then hB1.out hb2)
  clear d0 d1 dl kF hbx1 hB1 hb2
  cases b with
  | false =>
    clear hfew
    go_wp2_with fail
    go_ret
    exact ⟨rfl, hB2.out⟩
  | true =>
    obtain ⟨hl2, hf2⟩ := hfew rfl
    clear hfew
    have d0 := hbx2.out.cell 0
    have d1 := hbx2.out.cell 1
    have dl := hbx2.out.lt
    have hff : ∀ o ∈ L, o.few := fun o ho => by
      obtain ⟨i, hi, rfl⟩ := List.getElem_of_mem ho
      have := hf2 i hi
      exact ⟨by omega, by omega, by omega⟩
    have hrl : ∀ o ∈ L, o.rows.length ≤ 400000 := fun o ho => by
      have := (hff o ho).1
      omega
    have hRo : ∀ o ∈ L, RowsOk o.rows := fun o ho => (hok.out o ho).rows
    by_cases hE40 : E.length ≤ 40
    · have q1 : ¬ (40 : Int) < (E.length : Int) := by omega
      have kR := rightState_any w2 next _ L (hL.out.below hB2.out) (by omega) hff hRo (fun o ho => (hok.out o ho).name)
      have hS := fun h => right_srt (next := next) (L := L) h
      generalize rightSB next L = rs at *
      replace kR := Lib.hid kR
      replace hff := Lib.hid hff
      replace hrl := Lib.hid hrl
      replace hRo := Lib.hid hRo
      replace hf2 := Lib.hid hf2
      replace hS := Lib.hid hS
      go_wp2_with fail
      refine kR.out.mono ?_; rintro e w3 ⟨rfl, hb3⟩
      have hbx3 := Lib.hid (hbx2.out.below hb3)
      have hB3 := Lib.hid (below_then hB2.out hb3)
      clear d0 d1 dl kR hbx2 hB2 hb3
      cases rs with
      | false =>
        go_wp2_with fail
        go_ret
        exact ⟨rfl, hB3.out⟩
      | true =>
        replace hS := Lib.hid (hS.out rfl)
        have hE3 := Lib.hid (View.below hE.out hB3.out)
        have h0w : World.ownsRow w3 w3.heap.size 50 13 (.slice none 0 0) 0 [] := World.ownsRow_nil _ _ _ _
        go_upto_region 5 with (at_builtin; refine wpList_append_view _ rfl (.const (.slice none 0 0)) (.tmp 40) _ rfl w3.heap.size 50 i0 zEf 13 144 Try.underlying46 hi0 hz0 hz1 hz2 rfl (by decide) (.slice none 0 0) 0 [] rfl h0w (.slice A2 E.length cap2) E.length (E.flatMap Ef.cells) rfl hE3.out (Ef.one E) (by omega) (by simp only [maxLen]; omega) (Nat.le_refl _) ?_; intro v5 w5 hown5 hg5 hat5)
        rw [Nat.zero_add, List.nil_append] at hown5
        have hb5 := grown_none hg5
        have hx5 : Hid (VEfs w5 v5 E) := Lib.hid (View.of_own hown5)
        have hbx5 := Lib.hid (hbx3.out.below hb5)
        have hB5 := Lib.hid (below_then hB3.out hb5)
        have d0 := hbx5.out.cell 0
        have d1 := hbx5.out.cell 1
        have dl := hbx5.out.lt
        have kG1 := tget1_any w5 next _ L v5 E table key (hL.out.below hB5.out) hx5.out (by omega) hrl.out (by omega) (base_srt hS.out)
        generalize hlk : look (tab L E table) key = lk at kG1
        have hg1 : ∃ gb, gb = lk.isSome := ⟨_, rfl⟩
        have hg2 : ∃ gv, gv = lk.getD ⟨#[]⟩ := ⟨_, rfl⟩
        obtain ⟨gb, hg1⟩ := hg1
        obtain ⟨gv, hg2⟩ := hg2
        rw [← hg1, ← hg2] at kG1
        replace hlk := Lib.hid hlk
        replace hg1 := Lib.hid hg1
        replace hg2 := Lib.hid hg2
        replace kG1 := Lib.hid kG1
        clear hg5 hat5 hown5 h0w hbx3 hB3 hb5 hE3
        go_upto_region 6 with (go_at_call 24; refine kG1.out.mono ?_; rintro e w6 ⟨rfl, hb6⟩)
        have hx6 := Lib.hid (View.below hx5.out hb6)
        have hbx6 := Lib.hid (hbx5.out.below hb6)
        have hB6 := Lib.hid (below_then hB5.out hb6)
        clear d0 d1 dl kG1 hbx5 hB5 hb6 hx5
        have d0 := hbx6.out.cell 0
        have d1 := hbx6.out.cell 1
        have dl := hbx6.out.lt
        have kG2 := rget1_any w6 next _ L _ E table key (hL.out.below hB6.out) (View.below hE.out hB6.out) (by omega) hrl.out (by omega) hRo.out (fun e he => (hEk.out e he).2) hk2 (base_srt hS.out)
        rw [hlk.out, ← hg1.out, ← hg2.out] at kG2
        replace kG2 := Lib.hid kG2
        clear hlk hg1 hg2
        go_upto_region 7 with (go_at_call 33; refine kG2.out.mono ?_; rintro e w7 ⟨rfl, hb7⟩)
        have hx7 := Lib.hid (View.below hx6.out hb7)
        have hbx7 := Lib.hid (hbx6.out.below hb7)
        have hB7 := Lib.hid (below_then hB6.out hb7)
        clear d0 d1 dl kG2 hbx6 hB6 hb7 hx6
        have c0 : w7.cell? ⟨w.heap.size, 0, none⟩ = some (.int .i64 next) := hbx7.out.cell 0
        have c1 : w7.cell? ⟨w.heap.size, 1, none⟩ = some (.slice A L.length cap) := hbx7.out.cell 1
        have dl := hbx7.out.lt
        have hL7 := hL.out.below hB7.out
        have hE7 := Lib.hid (show VEfs w7 (.slice A2 E.length cap2) E from View.below hE.out hB7.out)
        have hEl : E.length ≤ 1000000 := by omega
        have kS1 := fun (W : World) (h : Below w7.heap.size w7 W) => tscan_any W next _ L v5 E table from' to' (hL7.below h) (View.below hx7.out h) (by omega) hrl.out (by omega)
        have kS2 := fun (W : World) (h : Below w7.heap.size w7 W) => rscan_any W next _ L _ E table from' to' (hL7.below h) (View.below hE7.out h) (by omega) hrl.out (by omega) hRo.out (fun e he => (hEk.out e he).2) hk3 hk4
        have kT1 := fun (W : World) (h : Below w7.heap.size w7 W) => tsettle_any W next _ L v5 E (hL7.below h) (View.below hx7.out h) (by omega) hrl.out (by omega) hS.out (fun e he => hEk.out e he)
        have kT2 := fun (W : World) (h : Below w7.heap.size w7 W) => rsettle_any W next _ L _ E (hL7.below h) (View.below hE7.out h) (by omega) hrl.out (by omega) hS.out hRo.out (fun e he => (hEk.out e he).2)
        have kU1 := fun (W : World) (h : VEfs W v5 E) => tunclaim_any W _ E tried h (by omega)
        have kU2 := fun (W : World) (h : Below w7.heap.size w7 W) => runclaim_any W _ E tried (View.below hE7.out h) (by omega)
        have hRR : ((tab L E table).filter fun r => inB r.key from' to').length ≤ 1000000 := Nat.le_trans (List.length_filter_le _ _) (by have := tab_len (name := table) hrl.out (show E.length ≤ 100000 by omega); omega)
        have hSE : (settleTo L E E.length).length ≤ 1000000 := by have := settle_len (L := L) (E := E) (Nat.le_refl E.length); omega
        have hUE : (frees E tried).length ≤ 1000000 := by have := frees_len E tried; omega
        generalize (tab L E table).filter (fun r => inB r.key from' to') = RR at *
        generalize settleTo L E E.length = SE at *
        generalize frees E tried = UE at *
        have rx := Lib.hid (View.drew hx7.out)
        have hcur := Lib.hid (Below.drew (Below.refl w7.heap.size w7))
        replace kS1 := Lib.hid kS1
        replace kS2 := Lib.hid kS2
        replace kT1 := Lib.hid kT1
        replace kT2 := Lib.hid kT2
        replace kU1 := Lib.hid kU1
        replace kU2 := Lib.hid kU2
        replace hf2 := Lib.hid hf2
        clear hL7 hbx7 hx7
        refine tl_begin (fun (w' : World) => w'.cell? ⟨w.heap.size, 0, none⟩ = some (.int .i64 next) ∧ w'.cell? ⟨w.heap.size, 1, none⟩ = some (.slice A L.length cap)) [] (by kernel_rfl) (⟨c0, c1⟩) (fun hHeld => ?_)
        refine tl_p (i := 0) (v := ?_) rfl (by rfl) (by kernel_rfl) (by kernel_rfl) (by kernel_rfl) (fun _ _ _ h => h) (by rfl) hHeld ?_ ?_
        rotate_left
        · intro w
          go_simp
          try (with_reducible rfl)
        try simp only [Act.put, List.setIfInBounds_toArray, List.set_cons_zero, List.set_cons_succ]
        refine tl_p (i := 1) (v := ?_) rfl (by rfl) (by kernel_rfl) (by kernel_rfl) (by kernel_rfl) (fun _ _ _ h => h) (by rfl) hHeld ?_ ?_
        rotate_left
        · intro w
          go_simp
          try (with_reducible rfl)
        try simp only [Act.put, List.setIfInBounds_toArray, List.set_cons_zero, List.set_cons_succ]
        refine tl_p (i := 2) (v := ?_) rfl (by rfl) (by kernel_rfl) (by kernel_rfl) (by kernel_rfl) (fun _ _ _ h => h) (by rfl) hHeld ?_ ?_
        rotate_left
        · intro w
          go_simp
          try (with_reducible rfl)
        try simp only [Act.put, List.setIfInBounds_toArray, List.set_cons_zero, List.set_cons_succ]
        refine tl_p (i := 3) (v := ?_) rfl (by rfl) (by kernel_rfl) (by kernel_rfl) (by kernel_rfl) (fun _ _ _ h => h) (by rfl) hHeld ?_ ?_
        rotate_left
        · intro w
          go_simp
          try (with_reducible rfl)
        try simp only [Act.put, List.setIfInBounds_toArray, List.set_cons_zero, List.set_cons_succ]
        refine tl_p (i := 4) (v := ?_) rfl (by rfl) (by kernel_rfl) (by kernel_rfl) (by kernel_rfl) (fun _ _ _ h => h) (by rfl) hHeld ?_ ?_
        rotate_left
        · intro w
          go_simp
          try (with_reducible rfl)
        try simp only [Act.put, List.setIfInBounds_toArray, List.set_cons_zero, List.set_cons_succ]
        refine tl_p (i := 5) (v := ?_) rfl (by rfl) (by kernel_rfl) (by kernel_rfl) (by kernel_rfl) (fun _ _ _ h => h) (by rfl) hHeld ?_ ?_
        rotate_left
        · intro w
          go_simp
          try (with_reducible rfl)
        try simp only [Act.put, List.setIfInBounds_toArray, List.set_cons_zero, List.set_cons_succ]
        refine tl_p (i := 6) (v := ?_) rfl (by rfl) (by kernel_rfl) (by kernel_rfl) (by kernel_rfl) (fun _ _ _ h => h) (by rfl) hHeld ?_ ?_
        rotate_left
        · intro w
          go_simp
          try (with_reducible rfl)
        try simp only [Act.put, List.setIfInBounds_toArray, List.set_cons_zero, List.set_cons_succ]
        refine tl_p (i := 7) (v := ?_) rfl (by rfl) (by kernel_rfl) (by kernel_rfl) (by kernel_rfl) (fun _ _ _ h => h) (by rfl) hHeld ?_ ?_
        rotate_left
        · intro w
          go_simp
          try (with_reducible rfl)
        try simp only [Act.put, List.setIfInBounds_toArray, List.set_cons_zero, List.set_cons_succ]
        refine tl_p (i := 8) (v := ?_) rfl (by rfl) (by kernel_rfl) (by kernel_rfl) (by kernel_rfl) (fun _ _ _ h => h) (by rfl) hHeld ?_ ?_
        rotate_left
        · intro w
          go_simp
          try (with_reducible rfl)
        try simp only [Act.put, List.setIfInBounds_toArray, List.set_cons_zero, List.set_cons_succ]
        refine tl_w (i := 9) (v := ?_) rfl (by rfl) (by kernel_rfl) (by kernel_rfl) (by kernel_rfl) (by kernel_rfl) (by kernel_rfl) (fun _ _ _ h => h) (by rfl) hHeld ?_ ?_
        rotate_left
        · intro w hSw
          try dsimp only at hSw
          go_simp
          try (with_reducible rfl)
        try simp only [Act.put, List.setIfInBounds_toArray, List.set_cons_zero, List.set_cons_succ]
        refine tl_p (i := 10) (v := ?_) rfl (by rfl) (by kernel_rfl) (by kernel_rfl) (by kernel_rfl) (fun _ _ _ h => h) (by rfl) hHeld ?_ ?_
        rotate_left
        · intro w
          go_simp
          try (with_reducible rfl)
        try simp only [Act.put, List.setIfInBounds_toArray, List.set_cons_zero, List.set_cons_succ]
        refine tl_p (i := 11) (v := ?_) rfl (by rfl) (by kernel_rfl) (by kernel_rfl) (by kernel_rfl) (fun _ _ _ h => h) (by rfl) hHeld ?_ ?_
        rotate_left
        · intro w
          go_simp
          try (with_reducible rfl)
        try simp only [Act.put, List.setIfInBounds_toArray, List.set_cons_zero, List.set_cons_succ]
        refine tl_p (i := 12) (v := ?_) rfl (by rfl) (by kernel_rfl) (by kernel_rfl) (by kernel_rfl) (fun _ _ _ h => h) (by rfl) hHeld ?_ ?_
        rotate_left
        · intro w
          go_simp
          try (with_reducible rfl)
        try simp only [Act.put, List.setIfInBounds_toArray, List.set_cons_zero, List.set_cons_succ]
        refine tl_p (i := 13) (v := ?_) rfl (by rfl) (by kernel_rfl) (by kernel_rfl) (by kernel_rfl) (fun _ _ _ h => h) (by rfl) hHeld ?_ ?_
        rotate_left
        · intro w
          go_simp
          try (with_reducible rfl)
        try simp only [Act.put, List.setIfInBounds_toArray, List.set_cons_zero, List.set_cons_succ]
        refine tl_w (i := 15) (v := ?_) rfl (by rfl) (by kernel_rfl) (by kernel_rfl) (by kernel_rfl) (by kernel_rfl) (by kernel_rfl) (fun _ _ _ h => h) (by rfl) hHeld ?_ ?_
        rotate_left
        · intro w hSw
          try dsimp only at hSw
          go_simp
          try (with_reducible rfl)
        try simp only [Act.put, List.setIfInBounds_toArray, List.set_cons_zero, List.set_cons_succ]
        refine tl_p (i := 16) (v := ?_) rfl (by rfl) (by kernel_rfl) (by kernel_rfl) (by kernel_rfl) (fun _ _ _ h => h) (by rfl) hHeld ?_ ?_
        rotate_left
        · intro w
          go_simp
          try (with_reducible rfl)
        try simp only [Act.put, List.setIfInBounds_toArray, List.set_cons_zero, List.set_cons_succ]
        refine tl_p (i := 17) (v := ?_) rfl (by rfl) (by kernel_rfl) (by kernel_rfl) (by kernel_rfl) (fun _ _ _ h => h) (by rfl) hHeld ?_ ?_
        rotate_left
        · intro w
          go_simp
          try (with_reducible rfl)
        try simp only [Act.put, List.setIfInBounds_toArray, List.set_cons_zero, List.set_cons_succ]
        refine tl_p (i := 18) (v := ?_) rfl (by rfl) (by kernel_rfl) (by kernel_rfl) (by kernel_rfl) (fun _ _ _ h => h) (by rfl) hHeld ?_ ?_
        rotate_left
        · intro w
          go_simp
          try (with_reducible rfl)
        try simp only [Act.put, List.setIfInBounds_toArray, List.set_cons_zero, List.set_cons_succ]
        refine tl_p (i := 19) (v := ?_) rfl (by rfl) (by kernel_rfl) (by kernel_rfl) (by kernel_rfl) (fun _ _ _ h => h) (by rfl) hHeld ?_ ?_
        rotate_left
        · intro w
          go_simp
          try (with_reducible rfl)
        try simp only [Act.put, List.setIfInBounds_toArray, List.set_cons_zero, List.set_cons_succ]
        refine tl_do (i := 14) rfl (by kernel_rfl) (by rfl) (fun K hK => ?_)
        go_simp
        go_at_call 32
        refine (kS1.out _ hcur.out).mono ?_; rintro e w8 ⟨v8, rfl, ho8, hb8⟩
        have hcN := And.intro (kc hb8 hHeld.1) (kc hb8 hHeld.2)
        have hcur2 := Lib.hid (hcur.out.trans (hb8.mono hcur.out.size))
        clear hcur
        have hcur := hcur2
        clear hcur2
        have rxn := Lib.hid (View.below rx.out hb8)
        clear rx
        have rx := rxn
        clear rxn
        have r8 : Hid (VRows w8 v8 _) := Lib.hid (View.of_own ho8)
        clear ho8 hb8
        try go_wp2_with fail
        refine hK.out _ _ (hcN) (fun hHeld1 => ?_)
        clear hK K hHeld
        have hHeld := hHeld1
        clear hHeld1
        try simp only [Act.put, List.setIfInBounds_toArray, List.set_cons_zero, List.set_cons_succ]
        refine tl_do (i := 20) rfl (by kernel_rfl) (by rfl) (fun K hK => ?_)
        go_simp
        go_at_call 34
        refine (kS2.out _ hcur.out).mono ?_; rintro e w9 ⟨v9, rfl, ho9, hb9⟩
        have hcN := And.intro (kc hb9 hHeld.1) (kc hb9 hHeld.2)
        have hcur2 := Lib.hid (hcur.out.trans (hb9.mono hcur.out.size))
        clear hcur
        have hcur := hcur2
        clear hcur2
        have rxn := Lib.hid (View.below rx.out hb9)
        clear rx
        have rx := rxn
        clear rxn
        have r8n := Lib.hid (View.below r8.out hb9)
        clear r8
        have r8 := r8n
        clear r8n
        have r9 : Hid (VRows w9 v9 _) := Lib.hid (View.of_own ho9)
        clear ho9 hb9
        try go_wp2_with fail
        refine hK.out _ _ (hcN) (fun hHeld1 => ?_)
        clear hK K hHeld
        have hHeld := hHeld1
        clear hHeld1
        try simp only [Act.put, List.setIfInBounds_toArray, List.set_cons_zero, List.set_cons_succ]
        refine tl_do (i := 21) rfl (by kernel_rfl) (by rfl) (fun K hK => ?_)
        go_simp
        go_at_call 16
        refine (same_rows _ _ _ RR r8.out r9.out hRR).mono ?_; rintro e w10 ⟨rfl, hs10⟩
        have hb10 := Same.below (B := w9.heap.size) hs10
        have hcN := And.intro (kc hb10 hHeld.1) (kc hb10 hHeld.2)
        have hcur2 := Lib.hid (hcur.out.trans (hb10.mono hcur.out.size))
        clear hcur
        have hcur := hcur2
        clear hcur2
        have rxn := Lib.hid (View.below rx.out hb10)
        clear rx
        have rx := rxn
        clear rxn
        clear hs10 hb10 r8 r9
        try go_wp2_with fail
        refine hK.out _ _ (hcN) (fun hHeld1 => ?_)
        clear hK K hHeld
        have hHeld := hHeld1
        clear hHeld1
        try simp only [Act.put, List.setIfInBounds_toArray, List.set_cons_zero, List.set_cons_succ]
        refine tl_p (i := 22) (v := ?_) rfl (by rfl) (by kernel_rfl) (by kernel_rfl) (by kernel_rfl) (fun _ _ _ h => h) (by rfl) hHeld ?_ ?_
        rotate_left
        · intro w
          go_simp
          try (with_reducible rfl)
        try simp only [Act.put, List.setIfInBounds_toArray, List.set_cons_zero, List.set_cons_succ]
        refine tl_p (i := 23) (v := ?_) rfl (by rfl) (by kernel_rfl) (by kernel_rfl) (by kernel_rfl) (fun _ _ _ h => h) (by rfl) hHeld ?_ ?_
        rotate_left
        · intro w
          go_simp
          try (with_reducible rfl)
        try simp only [Act.put, List.setIfInBounds_toArray, List.set_cons_zero, List.set_cons_succ]
        refine tl_w (i := 24) (v := ?_) rfl (by rfl) (by kernel_rfl) (by kernel_rfl) (by kernel_rfl) (by kernel_rfl) (by kernel_rfl) (fun _ _ _ h => h) (by rfl) hHeld ?_ ?_
        rotate_left
        · intro w hSw
          try dsimp only at hSw
          go_simp
          try (with_reducible rfl)
        try simp only [Act.put, List.setIfInBounds_toArray, List.set_cons_zero, List.set_cons_succ]
        refine tl_p (i := 25) (v := ?_) rfl (by rfl) (by kernel_rfl) (by kernel_rfl) (by kernel_rfl) (fun _ _ _ h => h) (by rfl) hHeld ?_ ?_
        rotate_left
        · intro w
          go_simp
          try (with_reducible rfl)
        try simp only [Act.put, List.setIfInBounds_toArray, List.set_cons_zero, List.set_cons_succ]
        refine tl_w (i := 27) (v := ?_) rfl (by rfl) (by kernel_rfl) (by kernel_rfl) (by kernel_rfl) (by kernel_rfl) (by kernel_rfl) (fun _ _ _ h => h) (by rfl) hHeld ?_ ?_
        rotate_left
        · intro w hSw
          try dsimp only at hSw
          go_simp
          try (with_reducible rfl)
        try simp only [Act.put, List.setIfInBounds_toArray, List.set_cons_zero, List.set_cons_succ]
        refine tl_p (i := 28) (v := ?_) rfl (by rfl) (by kernel_rfl) (by kernel_rfl) (by kernel_rfl) (fun _ _ _ h => h) (by rfl) hHeld ?_ ?_
        rotate_left
        · intro w
          go_simp
          try (with_reducible rfl)
        try simp only [Act.put, List.setIfInBounds_toArray, List.set_cons_zero, List.set_cons_succ]
        refine tl_do (i := 26) rfl (by kernel_rfl) (by rfl) (fun K hK => ?_)
        go_simp
        go_at_call 31
        refine (kT1.out _ hcur.out).mono ?_; rintro e w11 ⟨v11, rfl, ho11, hb11⟩
        have hcN := And.intro (kc hb11 hHeld.1) (kc hb11 hHeld.2)
        have hcur2 := Lib.hid (hcur.out.trans (hb11.mono hcur.out.size))
        clear hcur
        have hcur := hcur2
        clear hcur2
        have rxn := Lib.hid (View.below rx.out hb11)
        clear rx
        have rx := rxn
        clear rxn
        have r11 : Hid (VEfs w11 v11 _) := Lib.hid (View.of_own ho11)
        clear ho11 hb11
        try go_wp2_with fail
        refine hK.out _ _ (hcN) (fun hHeld1 => ?_)
        clear hK K hHeld
        have hHeld := hHeld1
        clear hHeld1
        try simp only [Act.put, List.setIfInBounds_toArray, List.set_cons_zero, List.set_cons_succ]
        refine tl_do (i := 29) rfl (by kernel_rfl) (by rfl) (fun K hK => ?_)
        go_simp
        go_at_call 36
        refine (kT2.out _ hcur.out).mono ?_; rintro e w12 ⟨v12, rfl, ho12, hb12⟩
        have hcN := And.intro (kc hb12 hHeld.1) (kc hb12 hHeld.2)
        have hcur2 := Lib.hid (hcur.out.trans (hb12.mono hcur.out.size))
        clear hcur
        have hcur := hcur2
        clear hcur2
        have rxn := Lib.hid (View.below rx.out hb12)
        clear rx
        have rx := rxn
        clear rxn
        have r11n := Lib.hid (View.below r11.out hb12)
        clear r11
        have r11 := r11n
        clear r11n
        have r12 : Hid (VEfs w12 v12 _) := Lib.hid (View.of_own ho12)
        clear ho12 hb12
        try go_wp2_with fail
        refine hK.out _ _ (hcN) (fun hHeld1 => ?_)
        clear hK K hHeld
        have hHeld := hHeld1
        clear hHeld1
        try simp only [Act.put, List.setIfInBounds_toArray, List.set_cons_zero, List.set_cons_succ]
        refine tl_do (i := 30) rfl (by kernel_rfl) (by rfl) (fun K hK => ?_)
        go_simp
        go_at_call 35
        refine (same_efs _ _ _ SE r11.out r12.out hSE).mono ?_; rintro e w13 ⟨rfl, hs13⟩
        have hb13 := Same.below (B := w12.heap.size) hs13
        have hcN := And.intro (kc hb13 hHeld.1) (kc hb13 hHeld.2)
        have hcur2 := Lib.hid (hcur.out.trans (hb13.mono hcur.out.size))
        clear hcur
        have hcur := hcur2
        clear hcur2
        have rxn := Lib.hid (View.below rx.out hb13)
        clear rx
        have rx := rxn
        clear rxn
        clear hs13 hb13 r11 r12
        try go_wp2_with fail
        refine hK.out _ _ (hcN) (fun hHeld1 => ?_)
        clear hK K hHeld
        have hHeld := hHeld1
        clear hHeld1
        try simp only [Act.put, List.setIfInBounds_toArray, List.set_cons_zero, List.set_cons_succ]
        refine tl_p (i := 31) (v := ?_) rfl (by rfl) (by kernel_rfl) (by kernel_rfl) (by kernel_rfl) (fun _ _ _ h => h) (by rfl) hHeld ?_ ?_
        rotate_left
        · intro w
          go_simp
          try (with_reducible rfl)
        try simp only [Act.put, List.setIfInBounds_toArray, List.set_cons_zero, List.set_cons_succ]
        refine tl_p (i := 32) (v := ?_) rfl (by rfl) (by kernel_rfl) (by kernel_rfl) (by kernel_rfl) (fun _ _ _ h => h) (by rfl) hHeld ?_ ?_
        rotate_left
        · intro w
          go_simp
          try (with_reducible rfl)
        try simp only [Act.put, List.setIfInBounds_toArray, List.set_cons_zero, List.set_cons_succ]
        refine tl_p (i := 33) (v := ?_) rfl (by rfl) (by kernel_rfl) (by kernel_rfl) (by kernel_rfl) (fun _ _ _ h => h) (by rfl) hHeld ?_ ?_
        rotate_left
        · intro w
          go_simp
          try (with_reducible rfl)
        try simp only [Act.put, List.setIfInBounds_toArray, List.set_cons_zero, List.set_cons_succ]
        refine tl_p (i := 34) (v := ?_) rfl (by rfl) (by kernel_rfl) (by kernel_rfl) (by kernel_rfl) (fun _ _ _ h => h) (by rfl) hHeld ?_ ?_
        rotate_left
        · intro w
          go_simp
          try (with_reducible rfl)
        try simp only [Act.put, List.setIfInBounds_toArray, List.set_cons_zero, List.set_cons_succ]
        refine tl_p (i := 36) (v := ?_) rfl (by rfl) (by kernel_rfl) (by kernel_rfl) (by kernel_rfl) (fun _ _ _ h => h) (by rfl) hHeld ?_ ?_
        rotate_left
        · intro w
          go_simp
          try (with_reducible rfl)
        try simp only [Act.put, List.setIfInBounds_toArray, List.set_cons_zero, List.set_cons_succ]
        refine tl_p (i := 37) (v := ?_) rfl (by rfl) (by kernel_rfl) (by kernel_rfl) (by kernel_rfl) (fun _ _ _ h => h) (by rfl) hHeld ?_ ?_
        rotate_left
        · intro w
          go_simp
          try (with_reducible rfl)
        try simp only [Act.put, List.setIfInBounds_toArray, List.set_cons_zero, List.set_cons_succ]
        refine tl_do (i := 35) rfl (by kernel_rfl) (by rfl) (fun K hK => ?_)
        go_simp
        go_at_call 37
        refine (kU1.out _ rx.out).mono ?_; rintro e w14 ⟨v14, rfl, ho14, hb14⟩
        have hcN := And.intro (kc hb14 hHeld.1) (kc hb14 hHeld.2)
        have hcur2 := Lib.hid (hcur.out.trans (hb14.mono hcur.out.size))
        clear hcur
        have hcur := hcur2
        clear hcur2
        have rxn := Lib.hid (View.below rx.out hb14)
        clear rx
        have rx := rxn
        clear rxn
        have r14 : Hid (VEfs w14 v14 _) := Lib.hid (View.of_own ho14)
        clear ho14 hb14
        try go_wp2_with fail
        refine hK.out _ _ (hcN) (fun hHeld1 => ?_)
        clear hK K hHeld
        have hHeld := hHeld1
        clear hHeld1
        try simp only [Act.put, List.setIfInBounds_toArray, List.set_cons_zero, List.set_cons_succ]
        refine tl_do (i := 38) rfl (by kernel_rfl) (by rfl) (fun K hK => ?_)
        go_simp
        go_at_call 38
        refine (kU2.out _ hcur.out).mono ?_; rintro e w15 ⟨v15, rfl, ho15, hb15⟩
        have hcN := And.intro (kc hb15 hHeld.1) (kc hb15 hHeld.2)
        have hcur2 := Lib.hid (hcur.out.trans (hb15.mono hcur.out.size))
        clear hcur
        have hcur := hcur2
        clear hcur2
        have rxn := Lib.hid (View.below rx.out hb15)
        clear rx
        have rx := rxn
        clear rxn
        have r14n := Lib.hid (View.below r14.out hb15)
        clear r14
        have r14 := r14n
        clear r14n
        have r15 : Hid (VEfs w15 v15 _) := Lib.hid (View.of_own ho15)
        clear ho15 hb15
        try go_wp2_with fail
        refine hK.out _ _ (hcN) (fun hHeld1 => ?_)
        clear hK K hHeld
        have hHeld := hHeld1
        clear hHeld1
        try simp only [Act.put, List.setIfInBounds_toArray, List.set_cons_zero, List.set_cons_succ]
        refine tl_do (i := 39) rfl (by kernel_rfl) (by rfl) (fun K hK => ?_)
        go_simp
        go_at_call 35
        refine (same_efs _ _ _ UE r14.out r15.out hUE).mono ?_; rintro e w16 ⟨rfl, hs16⟩
        have hb16 := Same.below (B := w15.heap.size) hs16
        have hcN := And.intro (kc hb16 hHeld.1) (kc hb16 hHeld.2)
        have hcur2 := Lib.hid (hcur.out.trans (hb16.mono hcur.out.size))
        clear hcur
        have hcur := hcur2
        clear hcur2
        have rxn := Lib.hid (View.below rx.out hb16)
        clear rx
        have rx := rxn
        clear rxn
        clear hs16 hb16 r14 r15
        try go_wp2_with fail
        refine hK.out _ _ (hcN) (fun hHeld1 => ?_)
        clear hK K hHeld
        have hHeld := hHeld1
        clear hHeld1
        try simp only [Act.put, List.setIfInBounds_toArray, List.set_cons_zero, List.set_cons_succ]
        refine tl_p (i := 40) (v := ?_) rfl (by rfl) (by kernel_rfl) (by kernel_rfl) (by kernel_rfl) (fun _ _ _ h => h) (by rfl) hHeld ?_ ?_
        rotate_left
        · intro w
          go_simp
          try (with_reducible rfl)
        try simp only [Act.put, List.setIfInBounds_toArray, List.set_cons_zero, List.set_cons_succ]
        refine tl_p (i := 41) (v := ?_) rfl (by rfl) (by kernel_rfl) (by kernel_rfl) (by kernel_rfl) (fun _ _ _ h => h) (by rfl) hHeld ?_ ?_
        rotate_left
        · intro w
          go_simp
          try (with_reducible rfl)
        try simp only [Act.put, List.setIfInBounds_toArray, List.set_cons_zero, List.set_cons_succ]
        refine tl_p (i := 42) (v := ?_) rfl (by rfl) (by kernel_rfl) (by kernel_rfl) (by kernel_rfl) (fun _ _ _ h => h) (by rfl) hHeld ?_ ?_
        rotate_left
        · intro w
          go_simp
          try (with_reducible rfl)
        try simp only [Act.put, List.setIfInBounds_toArray, List.set_cons_zero, List.set_cons_succ]
        refine tl_p (i := 43) (v := ?_) rfl (by rfl) (by kernel_rfl) (by kernel_rfl) (by kernel_rfl) (fun _ _ _ h => h) (by rfl) hHeld ?_ ?_
        rotate_left
        · intro w
          go_simp
          try (with_reducible rfl)
        try simp only [Act.put, List.setIfInBounds_toArray, List.set_cons_zero, List.set_cons_succ]
        refine tl_do (i := 44) rfl (by kernel_rfl) (by rfl) (fun K hK => ?_)
        go_simp
        go_at_call 35
        refine (same_efs _ _ _ E rx.out (View.below hE7.out hcur.out) hEl).mono ?_; rintro e w17 ⟨rfl, hs17⟩
        have hb17 := Same.below (B := w16.heap.size) hs17
        have hcN := And.intro (kc hb17 hHeld.1) (kc hb17 hHeld.2)
        have hcur2 := Lib.hid (hcur.out.trans (hb17.mono hcur.out.size))
        clear hcur
        have hcur := hcur2
        clear hcur2
        clear hs17 hb17 rx
        try go_wp2_with fail
        refine hK.out _ _ (hcN) (fun hHeld1 => ?_)
        clear hK K hHeld
        have hHeld := hHeld1
        clear hHeld1
        try simp only [Act.put, List.setIfInBounds_toArray, List.set_cons_zero, List.set_cons_succ]
        refine tl_p (i := 45) (v := ?_) rfl (by rfl) (by kernel_rfl) (by kernel_rfl) (by kernel_rfl) (fun _ _ _ h => h) (by rfl) hHeld ?_ ?_
        rotate_left
        · intro w
          go_simp
          try (with_reducible rfl)
        try simp only [Act.put, List.setIfInBounds_toArray, List.set_cons_zero, List.set_cons_succ]
        refine tl_p (i := 46) (v := ?_) rfl (by rfl) (by kernel_rfl) (by kernel_rfl) (by kernel_rfl) (fun _ _ _ h => h) (by rfl) hHeld ?_ ?_
        rotate_left
        · intro w
          go_simp
          try (with_reducible rfl)
        try simp only [Act.put, List.setIfInBounds_toArray, List.set_cons_zero, List.set_cons_succ]
        refine till_done (by kernel_rfl) ?_ _
        clear hHeld
        go_wp2_with fail
        go_ret
        exact ⟨rfl, hB7.out.trans (hcur.out.mono hB7.out.size)⟩
    · have q1 : (40 : Int) < (E.length : Int) := by omega
      clear hff hrl hRo
      go_wp2_with fail
      go_ret
      exact ⟨rfl, hB2.out⟩
theorem txnSees_walk (W : World) (cs : Array Value) (x0 : KSt.T) (z0 : Rd Try.prog W KSt (Value.agg cs).cells.toList x0) (A1 : Option Addr) (n1 c1 : Nat) (x1 : (Kd.sl 50 KEf).T) (z1 : Rd Try.prog W (.sl 50 KEf) [.slice A1 n1 c1] x1)
    (a2 : ByteArray) (w2 : a2.size ≤ 140737488351232) (a3 : ByteArray) (w3 : a3.size ≤ 140737488351232) (a4 : ByteArray) (w4 : a4.size ≤ 140737488351232) (a5 : ByteArray) (w5 : a5.size ≤ 140737488351232) (a6 : Bool) :
    Calls Try.prog 8 #[.agg cs, .slice A1 n1 c1, .string a2, .string a3, .string a4, .string a5, .bool a6] W fun e w' => e = .returned (.bool true) ∧ Below W.heap.size W w' := by
  obtain ⟨next, v, L, e, hL, hok, hlen⟩ := st_of_rd z0
  rw [e]
  obtain ⟨E, hE, hEk⟩ := efs_of_rd z1
  exact txnSees_core W next v L _ E a2 a3 a4 a5 a6 hL hok hlen hE hEk w2 w3 w4 w5
end Go.Proofs.Ytegomkgfmaclkaa
