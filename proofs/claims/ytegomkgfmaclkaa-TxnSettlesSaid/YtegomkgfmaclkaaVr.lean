/-
  TxnSettles: plain facts and its walk.
-/
import Derived.Test.YtegomkgfmaclkaaVk
import Derived.Test.YtegomkgfmaclkaaVm
import Derived.Test.YtegomkgfmaclkaaVq
import Derived.Test.YtegomkgfmaclkaaVe
import Derived.Deep.DeepCutAuto
set_option linter.unusedVariables false
set_option linter.unusedSimpArgs false
namespace Go.Proofs.Ytegomkgfmaclkaa
open Go.RowKit Go.Proofs.PosteOrd Go.Proofs.PosteMem Go.Proofs.PosteOpen

theorem right_all {next : Int} {L : List Ob} (h : rightSB next L = true) {i : Nat} (hi : i < L.length) : okO next L i = true := by
  unfold rightSB at h
  simp only [Bool.and_eq_true] at h
  exact List.all_eq_true.1 h.2 i (List.mem_range.2 hi)
/-- A right state's rows stand in their order. -/
theorem right_rows {next : Int} {L : List Ob} (h : rightSB next L = true) : ∀ o ∈ L, Srt o.rows := fun o ho => by
  obtain ⟨i, hi, rfl⟩ := List.getElem_of_mem ho
  have h2 := right_all h hi
  unfold okO at h2
  simp only [Bool.and_eq_true] at h2
  have h3 := h2.1.1.1.2
  rw [getD_in hi] at h3
  unfold okB at h3
  simp only [Bool.and_eq_true] at h3
  exact rises_pairwise ((risesB_iff _).1 h3.1.1.1.2)
theorem right_next {next : Int} {L : List Ob} (h : rightSB next L = true) {i : Nat} (hi : i + 1 < L.length) : lt (L[i]'(by omega)).name L[i + 1].name := by
  have h2 := right_all h hi
  unfold okO at h2
  simp only [Bool.and_eq_true] at h2
  have h3 := h2.1.1.1.1
  unfold okA at h3
  rw [getD_in hi, show i + 1 - 1 = i by omega, getD_in (show i < L.length by omega), decide_eq_true (show 0 < i + 1 by omega), Bool.true_and] at h3
  simp only [Bool.and_eq_true, Bool.not_eq_true', decide_eq_false_iff_not] at h3
  unfold lt
  have := h3.2
  omega
theorem right_lt {next : Int} {L : List Ob} (h : rightSB next L = true) : ∀ j (hj : j < L.length) i (hij : i < j), lt (L[i]'(by omega)).name L[j].name
  | 0, _, i, hij => by omega
  | j + 1, hj, i, hij => by
    have h1 := right_next h hj
    rcases Nat.lt_or_ge i j with h2 | h2
    · exact lt_trans (right_lt h j (by omega) i h2) h1
    · obtain rfl : i = j := by omega
      exact h1
theorem right_apart {next : Int} {L : List Ob} (h : rightSB next L = true) : Apart L := fun i j hi hj e => by
  rcases Nat.lt_trichotomy i j with h1 | h1 | h1
  · exact absurd e (lt_ne (right_lt h j hj i h1))
  · exact h1
  · exact absurd e.symm (lt_ne (right_lt h i hi j h1))
theorem find_at {L : List Ob} {n : ByteArray} {o : Ob} (h : L.find? (isO n) = some o) : ∃ i, ∃ hi : i < L.length, L[i] = o ∧ o.name = n := by
  have h1 := List.find?_some h
  obtain ⟨i, hi, e⟩ := List.getElem_of_mem (List.mem_of_find?_eq_some h)
  exact ⟨i, hi, e, by unfold isO at h1; simpa using h1⟩
theorem base_at {L : List Ob} (hA : Apart L) {i : Nat} (hi : i < L.length) : baseR L L[i].name = L[i].rows := by
  unfold baseR
  rcases idxA_cases (isO L[i].name) L with ⟨k, hk, _, hp, hf⟩ | ⟨_, hf⟩
  · rw [hf]
    have : L[k].name = L[i].name := by unfold isO at hp; simpa using hp
    obtain rfl := hA k i hk hi this
    rfl
  · rw [List.find?_eq_none] at hf
    exact absurd (show isO L[i].name L[i] = true by unfold isO; simp) (hf _ (List.getElem_mem hi))
theorem in_nil (k : ByteArray) : inB k ⟨#[]⟩ ⟨#[]⟩ = true := by
  unfold inB
  rw [show (⟨#[]⟩ : ByteArray).toList = [] by rw [ByteArray.toList_eq], less_nil]
  rfl
theorem filter_in (R : List Row) : (R.filter fun r => inB r.key ⟨#[]⟩ ⟨#[]⟩) = R := List.filter_eq_self.2 fun r _ => in_nil r.key
/-- Is an effect one that the law takes? -/
noncomputable def mineB (L : List Ob) (e : Ef) : Bool := rightE e && onR e && ((L.find? (isO e.obj)).map fun o => decide (o.kind = 1)).getD false
theorem mine_parts {L : List Ob} {e : Ef} (h : mineB L e = true) : rightE e = true ∧ onR e = true ∧ ((L.find? (isO e.obj)).map fun o => decide (o.kind = 1)).getD false = true := by
  unfold mineB at h
  simp only [Bool.and_eq_true] at h
  exact ⟨h.1.1, h.1.2, h.2⟩
theorem mine_rows (L : List Ob) (E : List Ef) : OnRows (E.filter (mineB L)) := fun e he => by
  have h2 := (mine_parts (List.mem_filter.1 he).2).2.1
  unfold onR at h2
  simpa using h2
theorem can_do {next : Int} {L : List Ob} {E : List Ef} (hR : rightSB next L = true) (hEk : ∀ e ∈ E, e.key.size ≤ 140737488351232) : CanDo L (settleTo L (E.filter (mineB L)) (E.filter (mineB L)).length) := by
  have hs := right_rows hR
  have hA := right_apart hR
  have hM := mine_rows L E
  obtain ⟨_, h2⟩ := settle_once (L := L) hM _ (Nat.le_refl _)
  refine ⟨fun e he => ?_, fun e he => hEk e (List.mem_filter.1 (h2 e he).1).1, fun j hj => ?_⟩
  · exact (mine_parts (List.mem_filter.1 (h2 e he).1).2).1
  · have hjm := h2 _ (List.getElem_mem hj)
    have h3 := (mine_parts (List.mem_filter.1 hjm.1).2).2.2
    cases hf : L.find? (isO (settleTo L (E.filter (mineB L)) (E.filter (mineB L)).length)[j].obj) with
    | none => rw [hf] at h3; cases h3
    | some o =>
      rw [hf] at h3
      obtain ⟨i, hi, e, hn⟩ := find_at hf
      subst e
      refine ⟨i, hi, hn, by simpa using h3, ?_⟩
      rcases hM _ hjm.1 with hk | hk
      · exact .inl hk
      · refine .inr ⟨hk, ?_⟩
        have hb : baseR L (settleTo L (E.filter (mineB L)) (E.filter (mineB L)).length)[j].obj = L[i].rows := by rw [← hn]; exact base_at hA hi
        have ht := settle_there (L := L) hM hj hk (by rw [hb]; exact hs _ (List.getElem_mem hi))
        rw [hb] at ht
        rw [hn, (look_hit (tabs_srt _ (hs _ (List.getElem_mem hi))) _).1]
        exact ht
theorem pick_yes {p : Ef → Bool} {E : List Ef} {k : Nat} (hk : k < E.length) (h : p E[k] = true) : (E.take (k + 1)).filter p = (E.take k).filter p ++ [E[k]] := by
  rw [List.take_succ_eq_append_getElem hk, List.filter_append, List.filter_cons_of_pos (by exact h), List.filter_nil]
theorem pick_no {p : Ef → Bool} {E : List Ef} {k : Nat} (hk : k < E.length) (h : p E[k] = false) : (E.take (k + 1)).filter p = (E.take k).filter p := by
  rw [List.take_succ_eq_append_getElem hk, List.filter_append, List.filter_cons_of_neg (by rw [h]; decide), List.filter_nil, List.append_nil]

theorem new_of9 {B : Nat} {w0 w : World} (_ : Below B w0 w) (t : TypeId) (cs : Array Value) : Whole (w.alloc (.cells cs t)) w.heap.size t cs := Whole.new w t cs
theorem set2_cell9 {w : World} {g i j b o : Nat} {u u' x : Value} (hne : b ≠ g) (h : w.cell? ⟨b, o, none⟩ = some x) : ((w.setCell ⟨g, i, none⟩ u).setCell ⟨g, j, none⟩ u').cell? ⟨b, o, none⟩ = some x :=
  ((upd_set2 (w := w) (g := g) i j u u').cell (p := ⟨b, o, none⟩) (World.block_lt_of_cell? w _ h) hne).trans h
set_option maxRecDepth 100000 in
set_option maxHeartbeats 8000000 in
theorem txnSettles_core (w : World) (next : Int) (v : Value) (L : List Ob) (wv : Value) (E : List Ef) (hL : VObs w v L) (hok : ∀ o ∈ L, o.ok) (hlen : L.length ≤ 140737488351232) (hE : VEfs w wv E) (hEk : ∀ e ∈ E, e.obj.size ≤ 140737488351232 ∧ e.key.size ≤ 140737488351232) :
    Calls Try.prog 7 #[.agg #[.int .i64 next, v], wv] w fun e w' => e = .returned (.bool true) ∧ Below w.heap.size w w' := by
  obtain ⟨i0, hi0, hz0, hz1, hz2⟩ := info_parts infoEf
  obtain ⟨A, cap, rfl, hc, _⟩ := hL.view.cells
  obtain ⟨A2, cap2, rfl, hc2, _⟩ := hE.cells
  have hbx0 := Lib.hid (Whole.new w 45 #[.int .i64 next, .slice A L.length cap])
  have hb0 := Lib.hid ((Below.refl w.heap.size w).alloc (Nat.le_refl _) (.cells #[.int .i64 next, .slice A L.length cap] 45))
  replace hL := Lib.hid hL
  replace hok := Lib.hid hok
  replace hE := Lib.hid hE
  replace hEk := Lib.hid hEk
  go_enter Try.func7, Try.ntmps7
  go_wp2_with fail
  refine (alive23 _).mono ?_; rintro e w1 ⟨rfl, hb1⟩
  have hbx1 := Lib.hid (hbx0.out.below hb1)
  have hB1 := Lib.hid (below_then hb0.out hb1)
  have d0 := hbx1.out.cell 0
  have d1 := hbx1.out.cell 1
  have dl := hbx1.out.lt
  have kF := Lib.hid (few_any w1 next _ L (hL.out.below hB1.out) hok.out hlen)
  clear hbx0 hb0 hb1
  go_wp2_with fail
  refine kF.out.mono ?_; rintro e w2 ⟨⟨b, rfl, hfew⟩, hb2⟩
  have hbx2 := Lib.hid (hbx1.out.below hb2)
  have hB2 := Lib.hid (below_then hB1.out hb2)
  clear d0 d1 dl kF hbx1 hB1 hb2
  cases b with
  | false =>
    clear hfew
    go_wp2_with fail
    go_ret
    exact ⟨rfl, hB2.out⟩
  | true =>
    obtain ⟨hl2, hf2⟩ := hfew rfl
    clear hfew
    have d0 := hbx2.out.cell 0
    have d1 := hbx2.out.cell 1
    have dl := hbx2.out.lt
    have hff : ∀ o ∈ L, o.few := fun o ho => by
      obtain ⟨i, hi, rfl⟩ := List.getElem_of_mem ho
      have := hf2 i hi
      exact ⟨by omega, by omega, by omega⟩
    have hrl : ∀ o ∈ L, o.rows.length ≤ 400000 := fun o ho => by
      have := (hff o ho).1
      omega
    have hRo : ∀ o ∈ L, RowsOk o.rows := fun o ho => (hok.out o ho).rows
    by_cases hE40 : E.length ≤ 40
    · have q1 : ¬ (40 : Int) < (E.length : Int) := by omega
      have kR := rightState_any w2 next _ L (hL.out.below hB2.out) (by omega) hff hRo (fun o ho => (hok.out o ho).name)
      have hS : rightSB next L = true → rightSB next L = true := id
      generalize hrs9 : rightSB next L = rs at kR
      replace hrs9 := Lib.hid hrs9
      clear hS
      replace kR := Lib.hid kR
      replace hff := Lib.hid hff
      replace hrl := Lib.hid hrl
      replace hRo := Lib.hid hRo
      replace hf2 := Lib.hid hf2
      go_wp2_with fail
      refine kR.out.mono ?_; rintro e w3 ⟨rfl, hb3⟩
      have hbx3 := Lib.hid (hbx2.out.below hb3)
      have hB3 := Lib.hid (below_then hB2.out hb3)
      clear d0 d1 dl kR hbx2 hB2 hb3
      cases rs with
      | false =>
        go_wp2_with fail
        go_ret
        exact ⟨rfl, hB3.out⟩
      | true =>
        have hRt : rightSB next L = true := hrs9.out
        have hSr := Lib.hid (right_rows hRt)
        have hAp := Lib.hid (right_apart hRt)
        replace hRt := Lib.hid hRt
        have hE3 := Lib.hid (View.below hE.out hB3.out)
        have hB30 := Lib.hid (Below.refl w3.heap.size w3)
        go_upto_region 6 with fail
        go_loopw [6, 7] (fun a i wr => ∃ k : Nat, k ≤ E.length ∧ i = .int .i64 k ∧ OEfs wr w3.heap.size a ((E.take k).filter (mineB L)) ∧ Below w3.heap.size w3 wr) (fun _ i _ => E.length - (intOf i).toNat)
        case atStart => exact ⟨0, by omega, rfl, World.ownsRow_nil _ _ _ _, hB30.out⟩
        case round =>
          clear hB30
          obtain ⟨k, hk, rfl, ho, hb⟩ := hrel
          have hbx := hbx3.out.below hb
          have hBw := hB3.out.trans (hb.mono hB3.out.size)
          by_cases hlt : k < E.length
          · have q2 : (k : Int) < (E.length : Int) := by omega
            obtain ⟨b, off, cap', e, _, _, hbl, f⟩ := efs_at (View.below hE.out hBw) (by omega)
            injection e with e1 e2 e3
            subst e1 e3
            obtain ⟨p0, p1, p2, p3, p4, p5, p6, p7, p8, p9, p10, p11, p12⟩ := f k hlt
            clear f
            have c0 : wr.cell? ⟨w.heap.size, 0, none⟩ = some (.int .i64 next) := hbx.cell 0
            have c1 : wr.cell? ⟨w.heap.size, 1, none⟩ = some (.slice A L.length cap) := hbx.cell 1
            have cl := hbx.lt
            have kF := findObj_any wr.drew next _ L E[k].obj ((hL.out.below hBw).below (Below.drew (Below.refl _ _))) (by omega)
            have hyes := pick_yes (p := mineB L) hlt
            have hno := pick_no (p := mineB L) hlt
            have hml : ((E.take k).filter (mineB L)).length ≤ 40 := Nat.le_trans (List.length_filter_le _ _) (by rw [List.length_take]; omega)
            have kE := fun W : World => rightE_any W E[k]
            have hmB : mineB L E[k] = (rightE E[k] && onR E[k] && ((L.find? (isO E[k].obj)).map fun o => decide (o.kind = 1)).getD false) := rfl
            generalize mineB L E[k] = mb at *
            generalize rightE E[k] = rE at *
            generalize (E.take k).filter (mineB L) = M at *
            generalize E[k] = x at *
            obtain ⟨x0, x1, x2, x3, x4, x5, x6, ⟨x7, x8, x9, x10, x11, x12⟩⟩ := x
            unfold Ef.cells at kE
            simp only at p0 p1 p2 p3 p4 p5 p6 p7 p8 p9 p10 p11 p12 kF kE hmB
            have hidx := idxA_cases (isO x1) L
            generalize idxA (isO x1) L = ix at *
            replace kF := Lib.hid kF
            replace kE := Lib.hid kE
            replace hyes := Lib.hid hyes
            replace hno := Lib.hid hno
            replace hmB := Lib.hid hmB
            replace hidx := Lib.hid hidx
            replace ho := Lib.hid ho
            replace hb := Lib.hid hb
            replace hbx := Lib.hid hbx
            replace hBw := Lib.hid hBw
            go_upto_region 8 with fail
            go_region_held3 (fun (w' : World) => w'.cell? ⟨w.heap.size, 0, none⟩ = some (.int .i64 next) ∧ w'.cell? ⟨w.heap.size, 1, none⟩ = some (.slice A L.length cap) ∧ w'.cell? ⟨b, off + k * 13 + 1, none⟩ = some (.string x1)) (first | assumption | exact ⟨c0, c1, p1⟩ | exact ⟨(hb4.cell (p := ⟨w.heap.size, 0, none⟩) cl).trans c0, (hb4.cell (p := ⟨w.heap.size, 1, none⟩) cl).trans c1, (hb4.cell (p := ⟨b, off + k * 13 + 1, none⟩) hbl).trans p1⟩) (first | (go_at_call 28; refine kF.out.mono ?_; rintro e w4 ⟨rfl, hb4⟩))
            have hx4 : Below wr.heap.size wr w4 := (Below.drew (Below.refl _ _)).trans hb4
            have hB4 := Lib.hid (hb.out.trans (hx4.mono hb.out.size))
            have hBw4 := Lib.hid (hBw.out.trans (hx4.mono hBw.out.size))
            have ho4 := Lib.hid (own_below ho.out hx4)
            have hcb := fun {o : Nat} {v : Value} (h : wr.cell? ⟨b, o, none⟩ = some v) => (hx4.cell (p := ⟨b, o, none⟩) hbl).trans h
            replace p0 := hcb p0; replace p1 := hcb p1; replace p2 := hcb p2; replace p3 := hcb p3; replace p4 := hcb p4; replace p5 := hcb p5; replace p6 := hcb p6; replace p7 := hcb p7; replace p8 := hcb p8; replace p9 := hcb p9; replace p10 := hcb p10; replace p11 := hcb p11; replace p12 := hcb p12
            replace c0 := (hx4.cell (p := ⟨w.heap.size, 0, none⟩) cl).trans c0
            replace c1 := (hx4.cell (p := ⟨w.heap.size, 1, none⟩) cl).trans c1
            replace cl := Nat.lt_of_lt_of_le cl hx4.size
            replace hbl := Nat.lt_of_lt_of_le hbl hx4.size
            have kE4 := Lib.hid (kE.out w4)
            clear hcb hb hBw hbx ho hb4 hx4 kE kF
            go_wp2_with fail
            refine kE4.out.mono ?_; rintro e w5 ⟨rfl, hb5⟩
            have hB5 := Lib.hid (below_then hB4.out hb5)
            have hBw5 := Lib.hid (below_then hBw4.out hb5)
            have ho5 := Lib.hid (own_below ho4.out hb5)
            have hcb := fun {o : Nat} {v : Value} (h : w4.cell? ⟨b, o, none⟩ = some v) => (hb5.cell (p := ⟨b, o, none⟩) hbl).trans h
            replace p0 := hcb p0; replace p1 := hcb p1; replace p2 := hcb p2; replace p3 := hcb p3; replace p4 := hcb p4; replace p5 := hcb p5; replace p6 := hcb p6; replace p7 := hcb p7; replace p8 := hcb p8; replace p9 := hcb p9; replace p10 := hcb p10; replace p11 := hcb p11; replace p12 := hcb p12
            replace c0 := (hb5.cell (p := ⟨w.heap.size, 0, none⟩) cl).trans c0
            replace c1 := (hb5.cell (p := ⟨w.heap.size, 1, none⟩) cl).trans c1
            replace cl := Nat.lt_of_lt_of_le cl hb5.size
            replace hbl := Nat.lt_of_lt_of_le hbl hb5.size
            clear hcb hB4 hBw4 ho4 hb5 kE4
            cases rE with
            | false =>
              have hm : mb = false := hmB.out.trans (by rw [Bool.false_and, Bool.false_and])
              clear hmB hidx hyes
              replace hno := Lib.hid (hno.out hm)
              clear hm
              go_wp2_with fail
              go_roundw
              case rel => exact ⟨k + 1, by omega, by go_num, by rw [hno.out]; exact ho5.out, hB5.out⟩
              case measure => simp [intOf]; omega
            | true =>
              by_cases h2 : x0 = 2
              · subst h2
                rcases hidx.out with ⟨j, hj, rfl, hjp, hjf⟩ | ⟨rfl, hjf⟩
                · have q3 : (j : Int) < (L.length : Int) := by omega
                  have q4 : (0 : Int) ≤ (j : Int) := by omega
                  obtain ⟨bo, oo, capo, e, _, _, hbol, f⟩ := obs_at (hL.out.below hBw5.out) (by omega)
                  injection e with e1 e2 e3
                  subst e1 e3
                  obtain ⟨_, k1, _, _, _, _⟩ := f j hj
                  clear f
                  have hmB2 : mb = decide (L[j].kind = 1) := hmB.out.trans (by rw [hjf]; rfl)
                  clear hmB hidx
                  generalize L[j].kind = kd at *
                  by_cases h1 : kd = 1
                  · subst h1
                    have hm : mb = true := hmB2
                    replace hyes := Lib.hid (hyes.out hm)
                    clear hno hmB2 hm hjp hjf
                    have hvx := View.boxAt (sz := 13) w5 (Ef.cells ⟨2, x1, x2, x3, x4, x5, x6, ⟨x7, x8, x9, x10, x11, x12⟩⟩) 50 w5.heap.size rfl rfl
                    have hob := own_below ho5.out ((Below.refl _ _).alloc (Nat.le_refl _) (.cells (Ef.cells ⟨2, x1, x2, x3, x4, x5, x6, ⟨x7, x8, x9, x10, x11, x12⟩⟩).toArray 50))
                    have hbb := hB5.out.alloc hB5.out.size (.cells (Ef.cells ⟨2, x1, x2, x3, x4, x5, x6, ⟨x7, x8, x9, x10, x11, x12⟩⟩).toArray 50)
                    have hlt4 := Lib.hid ho5.out.lt
                    replace hob := Lib.hid hob
                    replace hbb := Lib.hid hbb
                    replace hvx := Lib.hid hvx
                    clear hBw5
                    go_wp2_with (at_builtin; refine wpList_append_view _ rfl (.tmp 78) (.tmp 83) _ rfl w3.heap.size 50 i0 zEf 13 144 Try.underlying46 hi0 hz0 hz1 hz2 rfl (by decide) _ M.length _ rfl hob.out _ 1 (Ef.cells ⟨2, x1, x2, x3, x4, x5, x6, ⟨x7, x8, x9, x10, x11, x12⟩⟩) rfl hvx.out (Ef.one1 _) (by omega) (by simp only [maxLen]; omega) hbb.out.size ?_; intro v6 w6 hown hg hat)
                    have hup := Upd.of_grown (S := fun b => u6.ownBlock = some b) hg (fun _ h => h)
                    go_roundw
                    case rel => exact ⟨k + 1, by omega, by go_num, by rw [hyes.out]; exact efs_snoc hown, hbb.out.trans (hup.below hbb.out.size (fun b he => (hlt4.out b he).1))⟩
                    case measure => simp [intOf]; omega
                  · have h1' : (kd == 1) = false := beq_eq_false_iff_ne.2 h1
                    have hm : mb = false := hmB2.trans (decide_eq_false h1)
                    clear hmB2 hyes hjp hjf
                    replace hno := Lib.hid (hno.out hm)
                    clear hm
                    go_wp2_with fail
                    go_roundw
                    case rel => exact ⟨k + 1, by omega, by go_num, by rw [hno.out]; exact ho5.out, hB5.out⟩
                    case measure => simp [intOf]; omega
                · have hm : mb = false := hmB.out.trans (by rw [hjf]; simp)
                  clear hmB hidx hyes
                  replace hno := Lib.hid (hno.out hm)
                  clear hm
                  go_wp2_with fail
                  go_roundw
                  case rel => exact ⟨k + 1, by omega, by go_num, by rw [hno.out]; exact ho5.out, hB5.out⟩
                  case measure => simp [intOf]; omega
              · have h2' : (x0 == 2) = false := beq_eq_false_iff_ne.2 h2
                by_cases h3 : x0 = 3
                · subst h3
                  rcases hidx.out with ⟨j, hj, rfl, hjp, hjf⟩ | ⟨rfl, hjf⟩
                  · have q3 : (j : Int) < (L.length : Int) := by omega
                    have q4 : (0 : Int) ≤ (j : Int) := by omega
                    obtain ⟨bo, oo, capo, e, _, _, hbol, f⟩ := obs_at (hL.out.below hBw5.out) (by omega)
                    injection e with e1 e2 e3
                    subst e1 e3
                    obtain ⟨_, k1, _, _, _, _⟩ := f j hj
                    clear f
                    have hmB2 : mb = decide (L[j].kind = 1) := hmB.out.trans (by rw [hjf]; rfl)
                    clear hmB hidx
                    generalize L[j].kind = kd at *
                    by_cases h1 : kd = 1
                    · subst h1
                      have hm : mb = true := hmB2
                      replace hyes := Lib.hid (hyes.out hm)
                      clear hno hmB2 hm hjp hjf
                      have hvx := View.boxAt (sz := 13) w5 (Ef.cells ⟨3, x1, x2, x3, x4, x5, x6, ⟨x7, x8, x9, x10, x11, x12⟩⟩) 50 w5.heap.size rfl rfl
                      have hob := own_below ho5.out ((Below.refl _ _).alloc (Nat.le_refl _) (.cells (Ef.cells ⟨3, x1, x2, x3, x4, x5, x6, ⟨x7, x8, x9, x10, x11, x12⟩⟩).toArray 50))
                      have hbb := hB5.out.alloc hB5.out.size (.cells (Ef.cells ⟨3, x1, x2, x3, x4, x5, x6, ⟨x7, x8, x9, x10, x11, x12⟩⟩).toArray 50)
                      have hlt4 := Lib.hid ho5.out.lt
                      replace hob := Lib.hid hob
                      replace hbb := Lib.hid hbb
                      replace hvx := Lib.hid hvx
                      clear hBw5
                      go_wp2_with (at_builtin; refine wpList_append_view _ rfl (.tmp 78) (.tmp 83) _ rfl w3.heap.size 50 i0 zEf 13 144 Try.underlying46 hi0 hz0 hz1 hz2 rfl (by decide) _ M.length _ rfl hob.out _ 1 (Ef.cells ⟨3, x1, x2, x3, x4, x5, x6, ⟨x7, x8, x9, x10, x11, x12⟩⟩) rfl hvx.out (Ef.one1 _) (by omega) (by simp only [maxLen]; omega) hbb.out.size ?_; intro v6 w6 hown hg hat)
                      have hup := Upd.of_grown (S := fun b => u6.ownBlock = some b) hg (fun _ h => h)
                      go_roundw
                      case rel => exact ⟨k + 1, by omega, by go_num, by rw [hyes.out]; exact efs_snoc hown, hbb.out.trans (hup.below hbb.out.size (fun b he => (hlt4.out b he).1))⟩
                      case measure => simp [intOf]; omega
                    · have h1' : (kd == 1) = false := beq_eq_false_iff_ne.2 h1
                      have hm : mb = false := hmB2.trans (decide_eq_false h1)
                      clear hmB2 hyes hjp hjf
                      replace hno := Lib.hid (hno.out hm)
                      clear hm
                      go_wp2_with fail
                      go_roundw
                      case rel => exact ⟨k + 1, by omega, by go_num, by rw [hno.out]; exact ho5.out, hB5.out⟩
                      case measure => simp [intOf]; omega
                  · have hm : mb = false := hmB.out.trans (by rw [hjf]; simp)
                    clear hmB hidx hyes
                    replace hno := Lib.hid (hno.out hm)
                    clear hm
                    go_wp2_with fail
                    go_roundw
                    case rel => exact ⟨k + 1, by omega, by go_num, by rw [hno.out]; exact ho5.out, hB5.out⟩
                    case measure => simp [intOf]; omega
                · have h3' : (x0 == 3) = false := beq_eq_false_iff_ne.2 h3
                  have hm : mb = false := hmB.out.trans (by unfold onR; simp [h2, h3])
                  clear hmB hidx hyes
                  replace hno := Lib.hid (hno.out hm)
                  clear hm
                  go_wp2_with fail
                  go_roundw
                  case rel => exact ⟨k + 1, by omega, by go_num, by rw [hno.out]; exact ho5.out, hB5.out⟩
                  case measure => simp [intOf]; omega
          · have hk3 : k = E.length := by omega
            subst hk3
            rw [List.take_length] at ho
            have q2 : ¬ (E.length : Int) < (E.length : Int) := by omega
            obtain ⟨A6, c6, rfl, _, _, _⟩ := own_shape ho
            have hMl : (E.filter (mineB L)).length ≤ 40 := Nat.le_trans (List.length_filter_le _ _) hE40
            have hMr := mine_rows L E
            have hCd := can_do (E := E) hRt.out (fun e he => (hEk.out e he).2)
            have hMk : ∀ e ∈ E.filter (mineB L), e.obj.size ≤ 140737488351232 ∧ e.key.size ≤ 140737488351232 := fun e he => hEk.out e (List.mem_filter.1 he).1
            have hTl := settle_len (L := L) (E := E.filter (mineB L)) (Nat.le_refl _)
            have hTab : ∀ i (hi : i < L.length), (settleTo L (E.filter (mineB L)) (E.filter (mineB L)).length).foldl (tab1 L[i].name) L[i].rows = tab L (E.filter (mineB L)) L[i].name := fun i hi => by
              have hb := base_at hAp.out hi
              have h9 := settle_tab hMr L[i].name (by rw [hb]; exact hSr.out _ (List.getElem_mem hi))
              unfold tab
              rw [hb] at h9 ⊢
              exact h9
            generalize E.filter (mineB L) = M at *
            have hL4 := hL.out.below hBw
            have kS := fun (W : World) (h : Below wr.heap.size wr W) => tsettle_any W next _ L _ M (hL4.below h) (View.below (OEfs.view ho) h) (by omega) hrl.out (by omega) hSr.out hMk
            have kA := fun (W : World) (tv : Value) (h : Below wr.heap.size wr W) (hT : VEfs W tv (settleTo L M M.length)) => apply_any W next _ L tv _ (hL4.below h) hT (by omega) hff.out hRo.out (fun o ho => (hok.out o ho).name) hRt.out hAp.out hCd (by omega)
            generalize hT9 : settleTo L M M.length = T at *
            have c0 : wr.cell? ⟨w.heap.size, 0, none⟩ = some (.int .i64 next) := hbx.cell 0
            have c1 : wr.cell? ⟨w.heap.size, 1, none⟩ = some (.slice A L.length cap) := hbx.cell 1
            have hcur := Lib.hid (Below.drew (Below.refl wr.heap.size wr))
            have hnn : ∀ W : World, Below wr.heap.size wr W → w.heap.size ≠ W.heap.size ∧ wr.heap.size ≤ W.heap.size := fun W h => by
              have h1 := h.size
              have h2 := hbx.lt
              exact ⟨by omega, h1⟩
            have hM5 := Lib.hid (OEfs.view ho)
            replace hnn := Lib.hid hnn
            replace kS := Lib.hid kS
            replace kA := Lib.hid kA
            replace hTab := Lib.hid hTab
            replace hMk := Lib.hid hMk
            replace hCd := Lib.hid hCd
            replace hMr := Lib.hid hMr
            replace hT9 := Lib.hid hT9
            replace hL4 := Lib.hid hL4
            replace hbx := Lib.hid hbx
            replace hBw := Lib.hid hBw
            clear ho hb hlt hk
            go_upto_region 11 with fail
            go_cut [9, 10] (fun s9 s10 wx => ∃ n9 v8 N, s9 = .pointer (some ⟨n9, 0, none⟩) ∧ s10 = .int .i64 0 ∧ Whole wx n9 45 #[.int .i64 next, v8] ∧ VObs wx v8 N ∧ N.length = L.length ∧ (∀ x (h1 : x < N.length) (h2 : x < L.length), N[x].dat = datAt L[x] T) ∧ Below wr.heap.size wr wx)
            case first =>
              refine tl_begin (fun (w' : World) => w'.cell? ⟨w.heap.size, 0, none⟩ = some (.int .i64 next) ∧ w'.cell? ⟨w.heap.size, 1, none⟩ = some (.slice A L.length cap)) [] (by kernel_rfl) (⟨c0, c1⟩) (fun hHeld => ?_)
              refine tl_w (i := 0) (v := ?_) rfl (by rfl) (by kernel_rfl) (by kernel_rfl) (by kernel_rfl) (by kernel_rfl) (by kernel_rfl) (fun _ _ _ h => h) (by rfl) hHeld ?_ ?_
              rotate_left
              · intro w hSw
                try dsimp only at hSw
                go_simp
                try (with_reducible rfl)
              try simp only [Act.put, List.setIfInBounds_toArray, List.set_cons_zero, List.set_cons_succ]
              refine tl_w (i := 1) (v := ?_) rfl (by rfl) (by kernel_rfl) (by kernel_rfl) (by kernel_rfl) (by kernel_rfl) (by kernel_rfl) (fun _ _ _ h => h) (by rfl) hHeld ?_ ?_
              rotate_left
              · intro w hSw
                try dsimp only at hSw
                go_simp
                try (with_reducible rfl)
              try simp only [Act.put, List.setIfInBounds_toArray, List.set_cons_zero, List.set_cons_succ]
              refine tl_p (i := 2) (v := ?_) rfl (by rfl) (by kernel_rfl) (by kernel_rfl) (by kernel_rfl) (fun _ _ _ h => h) (by rfl) hHeld ?_ ?_
              rotate_left
              · intro w
                go_simp
                try (with_reducible rfl)
              try simp only [Act.put, List.setIfInBounds_toArray, List.set_cons_zero, List.set_cons_succ]
              refine tl_two (i := 3) (j := 8) rfl rfl (by kernel_rfl) (by rfl) (by rfl) (fun K hK => ?_) (fun K hK => ?_)
              · go_simp
                go_at_call 31
                refine (kS.out _ hcur.out).mono ?_; rintro e w7 ⟨v7, rfl, ho7, hb7⟩
                have hcN := And.intro (kc hb7 hHeld.1) (kc hb7 hHeld.2)
                first | (replace hn := Lib.hid (hn.out.below hb7); have hB0 := True.intro) | have hA0 := True.intro
                have hcur2 := Lib.hid (hcur.out.trans (hb7.mono hcur.out.size))
                clear hcur
                have hcur := hcur2
                clear hcur2
                have r7 : Hid (VEfs w7 v7 T) := Lib.hid (View.of_own ho7)
                clear ho7 hb7
                try go_wp2_with fail
                refine hK.out _ _ (hcN) (fun hHeld1 => ?_)
                clear hK K hHeld
                have hHeld := hHeld1
                clear hHeld1
                try simp only [Act.put, List.setIfInBounds_toArray, List.set_cons_zero, List.set_cons_succ]
                refine tl_two (i := 4) (j := 8) rfl rfl (by kernel_rfl) (by rfl) (by rfl) (fun K hK => ?_) (fun K hK => ?_)
                · go_simp
                  go_at_call 30
                  refine (kA.out _ _ hcur.out r7.out).mono ?_; rintro e w8 ⟨v8, N, rfl, hN8, hNl, hNd, hb8⟩
                  have hcN := And.intro (kc hb8 hHeld.1) (kc hb8 hHeld.2)
                  obtain ⟨A8, c8, rfl, _, _, _⟩ := own_shape hN8.arr
                  first | (have hnl := Lib.hid hn.out.lt; replace hn := Lib.hid (hn.out.below hb8); have hB1 := True.intro) | have hA1 := True.intro
                  have hcur2 := Lib.hid (hcur.out.trans (hb8.mono hcur.out.size))
                  clear hcur
                  have hcur := hcur2
                  clear hcur2
                  replace hN8 := Lib.hid hN8
                  replace hNl := Lib.hid hNl
                  replace hNd := Lib.hid hNd
                  clear r7 hb8
                  try go_wp2_with fail
                  refine hK.out _ _ (hcN) (fun hHeld1 => ?_)
                  clear hK K hHeld
                  have hHeld := hHeld1
                  clear hHeld1
                  try simp only [Act.put, List.setIfInBounds_toArray, List.set_cons_zero, List.set_cons_succ]
                  refine tl_p (i := 5) (v := ?_) rfl (by rfl) (by kernel_rfl) (by kernel_rfl) (by kernel_rfl) (fun _ _ _ h => h) (by rfl) hHeld ?_ ?_
                  rotate_left
                  · intro w
                    go_simp
                    try (with_reducible rfl)
                  try simp only [Act.put, List.setIfInBounds_toArray, List.set_cons_zero, List.set_cons_succ]
                  refine tl_p (i := 6) (v := ?_) rfl (by rfl) (by kernel_rfl) (by kernel_rfl) (by kernel_rfl) (fun _ _ _ h => h) (by rfl) hHeld ?_ ?_
                  rotate_left
                  · intro w
                    go_simp
                    try (with_reducible rfl)
                  try simp only [Act.put, List.setIfInBounds_toArray, List.set_cons_zero, List.set_cons_succ]
                  refine tl_p (i := 7) (v := ?_) rfl (by rfl) (by kernel_rfl) (by kernel_rfl) (by kernel_rfl) (fun _ _ _ h => h) (by rfl) hHeld ?_ ?_
                  rotate_left
                  · intro w
                    go_simp
                    try (with_reducible rfl)
                  try simp only [Act.put, List.setIfInBounds_toArray, List.set_cons_zero, List.set_cons_succ]
                  refine tl_do (i := 8) rfl (by kernel_rfl) (by rfl) (fun K hK => ?_)
                  go_simp
                  have hn := Lib.hid (new_of9 hcur.out 45 #[.int .i64 0, .slice none 0 0])
                  have hne := Lib.hid (hnn.out _ hcur.out)
                  first | (have r7n := Lib.hid (View.alloc r7.out (.cells #[.int .i64 0, .slice none 0 0] 45)); clear r7; have r7 := r7n; clear r7n) | skip
                  have hHp := hHeld
                  have hcurp := hcur
                  have hcur2 := Lib.hid (hcur.out.alloc hcur.out.size (.cells #[.int .i64 0, .slice none 0 0] 45))
                  clear hcur
                  have hcur := hcur2
                  clear hcur2
                  refine hK.out _ _ (⟨cell_alloc _ hHeld.1, cell_alloc _ hHeld.2⟩) (fun hHeld1 => ?_)
                  clear hK K hHeld
                  have hHeld := hHeld1
                  clear hHeld1
                  try simp only [Act.put, List.setIfInBounds_toArray, List.set_cons_zero, List.set_cons_succ]
                  refine tl_do (i := 9) rfl (by kernel_rfl) (by rfl) (fun K hK => ?_)
                  have n0 := hn.out.cell 0
                  have n1 := hn.out.cell 1
                  have m0 := hn.out.frozen 0
                  have m1 := hn.out.frozen 1
                  have nl := hn.out.lt
                  try simp only [show wr.drew.heap.size = wr.heap.size from rfl] at n0 n1 m0 m1 nl
                  go_simp
                  refine hK.out _ _ (by first | exact ⟨cell_alloc _ hHp.1, cell_alloc _ hHp.2⟩ | exact ⟨set2_cell9 hne.out.1 hHeld.1, set2_cell9 hne.out.1 hHeld.2⟩) (fun hHeld1 => ?_)
                  clear hK K hHeld
                  have hHeld := hHeld1
                  clear hHeld1
                  try simp only [Act.put, List.setIfInBounds_toArray, List.set_cons_zero, List.set_cons_succ]
                  clear n0 n1 m0 m1 nl
                  refine tl_p (i := 10) (v := ?_) rfl (by rfl) (by kernel_rfl) (by kernel_rfl) (by kernel_rfl) (fun _ _ _ h => h) (by rfl) hHeld ?_ ?_
                  rotate_left
                  · intro w
                    go_simp
                    try (with_reducible rfl)
                  try simp only [Act.put, List.setIfInBounds_toArray, List.set_cons_zero, List.set_cons_succ]
                  refine till_done (by kernel_rfl) ?_ _
                  clear hHeld
                  go_wp2_with fail
                  go_meet
                  first
                    | exact ⟨w8.heap.size, .slice A8 N.length c8, N, rfl, rfl, Whole.new w8 45 #[.int .i64 next, .slice A8 N.length c8], hN8.out.view.below ((Below.refl _ _).alloc (Nat.le_refl _) _), hNl.out, hNd.out, hcurp.out.alloc hcurp.out.size _⟩
                    | exact ⟨_, .slice A8 N.length c8, N, rfl, rfl, (hn.out.set 0 (.int .i64 next)).set 1 (.slice A8 N.length c8), (hN8.out.upd (upd_set2 0 1 (.int .i64 next) (.slice A8 N.length c8)) (fun b e => by rw [e]; exact hnl.out)).view, hNl.out, hNd.out, (hcur.out.setCell (p := ⟨_, 0, none⟩) hne.out.2 (.int .i64 next)).setCell (p := ⟨_, 1, none⟩) hne.out.2 (.slice A8 N.length c8)⟩
                · go_simp
                  have hn := Lib.hid (new_of9 hcur.out 45 #[.int .i64 0, .slice none 0 0])
                  have hne := Lib.hid (hnn.out _ hcur.out)
                  first | (have r7n := Lib.hid (View.alloc r7.out (.cells #[.int .i64 0, .slice none 0 0] 45)); clear r7; have r7 := r7n; clear r7n) | skip
                  have hHp := hHeld
                  have hcurp := hcur
                  have hcur2 := Lib.hid (hcur.out.alloc hcur.out.size (.cells #[.int .i64 0, .slice none 0 0] 45))
                  clear hcur
                  have hcur := hcur2
                  clear hcur2
                  refine hK.out _ _ (⟨cell_alloc _ hHeld.1, cell_alloc _ hHeld.2⟩) (fun hHeld1 => ?_)
                  clear hK K hHeld
                  have hHeld := hHeld1
                  clear hHeld1
                  try simp only [Act.put, List.setIfInBounds_toArray, List.set_cons_zero, List.set_cons_succ]
                  refine tl_do (i := 4) rfl (by kernel_rfl) (by rfl) (fun K hK => ?_)
                  go_simp
                  go_at_call 30
                  refine (kA.out _ _ hcur.out r7.out).mono ?_; rintro e w8 ⟨v8, N, rfl, hN8, hNl, hNd, hb8⟩
                  have hcN := And.intro (kc hb8 hHeld.1) (kc hb8 hHeld.2)
                  obtain ⟨A8, c8, rfl, _, _, _⟩ := own_shape hN8.arr
                  first | (have hnl := Lib.hid hn.out.lt; replace hn := Lib.hid (hn.out.below hb8); have hB1 := True.intro) | have hA1 := True.intro
                  have hcur2 := Lib.hid (hcur.out.trans (hb8.mono hcur.out.size))
                  clear hcur
                  have hcur := hcur2
                  clear hcur2
                  replace hN8 := Lib.hid hN8
                  replace hNl := Lib.hid hNl
                  replace hNd := Lib.hid hNd
                  clear r7 hb8
                  try go_wp2_with fail
                  refine hK.out _ _ (hcN) (fun hHeld1 => ?_)
                  clear hK K hHeld
                  have hHeld := hHeld1
                  clear hHeld1
                  try simp only [Act.put, List.setIfInBounds_toArray, List.set_cons_zero, List.set_cons_succ]
                  refine tl_p (i := 5) (v := ?_) rfl (by rfl) (by kernel_rfl) (by kernel_rfl) (by kernel_rfl) (fun _ _ _ h => h) (by rfl) hHeld ?_ ?_
                  rotate_left
                  · intro w
                    go_simp
                    try (with_reducible rfl)
                  try simp only [Act.put, List.setIfInBounds_toArray, List.set_cons_zero, List.set_cons_succ]
                  refine tl_p (i := 6) (v := ?_) rfl (by rfl) (by kernel_rfl) (by kernel_rfl) (by kernel_rfl) (fun _ _ _ h => h) (by rfl) hHeld ?_ ?_
                  rotate_left
                  · intro w
                    go_simp
                    try (with_reducible rfl)
                  try simp only [Act.put, List.setIfInBounds_toArray, List.set_cons_zero, List.set_cons_succ]
                  refine tl_p (i := 7) (v := ?_) rfl (by rfl) (by kernel_rfl) (by kernel_rfl) (by kernel_rfl) (fun _ _ _ h => h) (by rfl) hHeld ?_ ?_
                  rotate_left
                  · intro w
                    go_simp
                    try (with_reducible rfl)
                  try simp only [Act.put, List.setIfInBounds_toArray, List.set_cons_zero, List.set_cons_succ]
                  refine tl_do (i := 9) rfl (by kernel_rfl) (by rfl) (fun K hK => ?_)
                  have n0 := hn.out.cell 0
                  have n1 := hn.out.cell 1
                  have m0 := hn.out.frozen 0
                  have m1 := hn.out.frozen 1
                  have nl := hn.out.lt
                  try simp only [show wr.drew.heap.size = wr.heap.size from rfl] at n0 n1 m0 m1 nl
                  go_simp
                  refine hK.out _ _ (by first | exact ⟨cell_alloc _ hHp.1, cell_alloc _ hHp.2⟩ | exact ⟨set2_cell9 hne.out.1 hHeld.1, set2_cell9 hne.out.1 hHeld.2⟩) (fun hHeld1 => ?_)
                  clear hK K hHeld
                  have hHeld := hHeld1
                  clear hHeld1
                  try simp only [Act.put, List.setIfInBounds_toArray, List.set_cons_zero, List.set_cons_succ]
                  clear n0 n1 m0 m1 nl
                  refine tl_p (i := 10) (v := ?_) rfl (by rfl) (by kernel_rfl) (by kernel_rfl) (by kernel_rfl) (fun _ _ _ h => h) (by rfl) hHeld ?_ ?_
                  rotate_left
                  · intro w
                    go_simp
                    try (with_reducible rfl)
                  try simp only [Act.put, List.setIfInBounds_toArray, List.set_cons_zero, List.set_cons_succ]
                  refine till_done (by kernel_rfl) ?_ _
                  clear hHeld
                  go_wp2_with fail
                  go_meet
                  first
                    | exact ⟨w8.heap.size, .slice A8 N.length c8, N, rfl, rfl, Whole.new w8 45 #[.int .i64 next, .slice A8 N.length c8], hN8.out.view.below ((Below.refl _ _).alloc (Nat.le_refl _) _), hNl.out, hNd.out, hcurp.out.alloc hcurp.out.size _⟩
                    | exact ⟨_, .slice A8 N.length c8, N, rfl, rfl, (hn.out.set 0 (.int .i64 next)).set 1 (.slice A8 N.length c8), (hN8.out.upd (upd_set2 0 1 (.int .i64 next) (.slice A8 N.length c8)) (fun b e => by rw [e]; exact hnl.out)).view, hNl.out, hNd.out, (hcur.out.setCell (p := ⟨_, 0, none⟩) hne.out.2 (.int .i64 next)).setCell (p := ⟨_, 1, none⟩) hne.out.2 (.slice A8 N.length c8)⟩
              · go_simp
                have hn := Lib.hid (new_of9 hcur.out 45 #[.int .i64 0, .slice none 0 0])
                have hne := Lib.hid (hnn.out _ hcur.out)
                first | (have r7n := Lib.hid (View.alloc r7.out (.cells #[.int .i64 0, .slice none 0 0] 45)); clear r7; have r7 := r7n; clear r7n) | skip
                have hHp := hHeld
                have hcurp := hcur
                have hcur2 := Lib.hid (hcur.out.alloc hcur.out.size (.cells #[.int .i64 0, .slice none 0 0] 45))
                clear hcur
                have hcur := hcur2
                clear hcur2
                refine hK.out _ _ (⟨cell_alloc _ hHeld.1, cell_alloc _ hHeld.2⟩) (fun hHeld1 => ?_)
                clear hK K hHeld
                have hHeld := hHeld1
                clear hHeld1
                try simp only [Act.put, List.setIfInBounds_toArray, List.set_cons_zero, List.set_cons_succ]
                refine tl_do (i := 3) rfl (by kernel_rfl) (by rfl) (fun K hK => ?_)
                go_simp
                go_at_call 31
                refine (kS.out _ hcur.out).mono ?_; rintro e w7 ⟨v7, rfl, ho7, hb7⟩
                have hcN := And.intro (kc hb7 hHeld.1) (kc hb7 hHeld.2)
                first | (replace hn := Lib.hid (hn.out.below hb7); have hB0 := True.intro) | have hA0 := True.intro
                have hcur2 := Lib.hid (hcur.out.trans (hb7.mono hcur.out.size))
                clear hcur
                have hcur := hcur2
                clear hcur2
                have r7 : Hid (VEfs w7 v7 T) := Lib.hid (View.of_own ho7)
                clear ho7 hb7
                try go_wp2_with fail
                refine hK.out _ _ (hcN) (fun hHeld1 => ?_)
                clear hK K hHeld
                have hHeld := hHeld1
                clear hHeld1
                try simp only [Act.put, List.setIfInBounds_toArray, List.set_cons_zero, List.set_cons_succ]
                refine tl_do (i := 4) rfl (by kernel_rfl) (by rfl) (fun K hK => ?_)
                go_simp
                go_at_call 30
                refine (kA.out _ _ hcur.out r7.out).mono ?_; rintro e w8 ⟨v8, N, rfl, hN8, hNl, hNd, hb8⟩
                have hcN := And.intro (kc hb8 hHeld.1) (kc hb8 hHeld.2)
                obtain ⟨A8, c8, rfl, _, _, _⟩ := own_shape hN8.arr
                first | (have hnl := Lib.hid hn.out.lt; replace hn := Lib.hid (hn.out.below hb8); have hB1 := True.intro) | have hA1 := True.intro
                have hcur2 := Lib.hid (hcur.out.trans (hb8.mono hcur.out.size))
                clear hcur
                have hcur := hcur2
                clear hcur2
                replace hN8 := Lib.hid hN8
                replace hNl := Lib.hid hNl
                replace hNd := Lib.hid hNd
                clear r7 hb8
                try go_wp2_with fail
                refine hK.out _ _ (hcN) (fun hHeld1 => ?_)
                clear hK K hHeld
                have hHeld := hHeld1
                clear hHeld1
                try simp only [Act.put, List.setIfInBounds_toArray, List.set_cons_zero, List.set_cons_succ]
                refine tl_p (i := 5) (v := ?_) rfl (by rfl) (by kernel_rfl) (by kernel_rfl) (by kernel_rfl) (fun _ _ _ h => h) (by rfl) hHeld ?_ ?_
                rotate_left
                · intro w
                  go_simp
                  try (with_reducible rfl)
                try simp only [Act.put, List.setIfInBounds_toArray, List.set_cons_zero, List.set_cons_succ]
                refine tl_p (i := 6) (v := ?_) rfl (by rfl) (by kernel_rfl) (by kernel_rfl) (by kernel_rfl) (fun _ _ _ h => h) (by rfl) hHeld ?_ ?_
                rotate_left
                · intro w
                  go_simp
                  try (with_reducible rfl)
                try simp only [Act.put, List.setIfInBounds_toArray, List.set_cons_zero, List.set_cons_succ]
                refine tl_p (i := 7) (v := ?_) rfl (by rfl) (by kernel_rfl) (by kernel_rfl) (by kernel_rfl) (fun _ _ _ h => h) (by rfl) hHeld ?_ ?_
                rotate_left
                · intro w
                  go_simp
                  try (with_reducible rfl)
                try simp only [Act.put, List.setIfInBounds_toArray, List.set_cons_zero, List.set_cons_succ]
                refine tl_do (i := 9) rfl (by kernel_rfl) (by rfl) (fun K hK => ?_)
                have n0 := hn.out.cell 0
                have n1 := hn.out.cell 1
                have m0 := hn.out.frozen 0
                have m1 := hn.out.frozen 1
                have nl := hn.out.lt
                try simp only [show wr.drew.heap.size = wr.heap.size from rfl] at n0 n1 m0 m1 nl
                go_simp
                refine hK.out _ _ (by first | exact ⟨cell_alloc _ hHp.1, cell_alloc _ hHp.2⟩ | exact ⟨set2_cell9 hne.out.1 hHeld.1, set2_cell9 hne.out.1 hHeld.2⟩) (fun hHeld1 => ?_)
                clear hK K hHeld
                have hHeld := hHeld1
                clear hHeld1
                try simp only [Act.put, List.setIfInBounds_toArray, List.set_cons_zero, List.set_cons_succ]
                clear n0 n1 m0 m1 nl
                refine tl_p (i := 10) (v := ?_) rfl (by rfl) (by kernel_rfl) (by kernel_rfl) (by kernel_rfl) (fun _ _ _ h => h) (by rfl) hHeld ?_ ?_
                rotate_left
                · intro w
                  go_simp
                  try (with_reducible rfl)
                try simp only [Act.put, List.setIfInBounds_toArray, List.set_cons_zero, List.set_cons_succ]
                refine till_done (by kernel_rfl) ?_ _
                clear hHeld
                go_wp2_with fail
                go_meet
                first
                  | exact ⟨w8.heap.size, .slice A8 N.length c8, N, rfl, rfl, Whole.new w8 45 #[.int .i64 next, .slice A8 N.length c8], hN8.out.view.below ((Below.refl _ _).alloc (Nat.le_refl _) _), hNl.out, hNd.out, hcurp.out.alloc hcurp.out.size _⟩
                  | exact ⟨_, .slice A8 N.length c8, N, rfl, rfl, (hn.out.set 0 (.int .i64 next)).set 1 (.slice A8 N.length c8), (hN8.out.upd (upd_set2 0 1 (.int .i64 next) (.slice A8 N.length c8)) (fun b e => by rw [e]; exact hnl.out)).view, hNl.out, hNd.out, (hcur.out.setCell (p := ⟨_, 0, none⟩) hne.out.2 (.int .i64 next)).setCell (p := ⟨_, 1, none⟩) hne.out.2 (.slice A8 N.length c8)⟩
            case rest =>
              obtain ⟨n9, v8, N, rfl, rfl, hx, hN, hNl, hNd, hb6⟩ := hcut
              obtain ⟨A8, c8, rfl, _, _⟩ := hN.view.cells
              have hB6 := hBw.out.trans (hb6.mono hBw.out.size)
              have hL6 := Lib.hid (hL4.out.below hb6)
              have hM6 := Lib.hid (View.below hM5.out hb6)
              have hbx6 := Lib.hid (hbx.out.below hb6)
              have hNr : ∀ i (hi : i < L.length) (hj : i < N.length), N[i].rows = tab L M L[i].name := fun i hi hj => by rw [(dat_name (hNd i hj hi)).2.2.2.1, hTab.out i hi]
              have hNs : ∀ o ∈ N, Srt o.rows ∧ o.rows.length ≤ 400000 := fun o ho => by
                obtain ⟨i, hi, rfl⟩ := List.getElem_of_mem ho
                have hiL : i < L.length := by omega
                rw [(dat_name (hNd i hi hiL)).2.2.2.1]
                have h1 := tabs_len L[i].name L[i].rows T
                have h2 := (hf2.out i hiL).1
                exact ⟨tabs_srt _ (hSr.out _ (List.getElem_mem hiL)), by omega⟩
              have hlw : w.heap.size < wc.heap.size := hbx6.out.lt
              have hlx : n9 < wc.heap.size := hx.lt
              have q3 : ¬ (N.length : Int) < (L.length : Int) := by omega
              replace hNr := Lib.hid hNr
              replace hNs := Lib.hid hNs
              replace hNl := Lib.hid hNl
              replace hN := Lib.hid hN
              replace hx := Lib.hid hx
              replace hB6 := Lib.hid hB6
              have hBz := Lib.hid (Below.refl wc.heap.size wc)
              clear hNd hb6 hL4 hM5 hbx kS kA hcur hnn hCd hMr hT9 hTab hTl hBw c0 c1 q3
              obtain ⟨wz, hwz⟩ : ∃ x, x = wc := ⟨wc, rfl⟩
              subst hwz
              go_upto_region 15 with fail
              go_loopw [11] (fun i wy => ∃ k : Nat, k ≤ L.length ∧ i = .int .i64 k ∧ Below wz.heap.size wz wy) (fun i _ => L.length - (intOf i).toNat)
              case atStart => exact ⟨0, by omega, rfl, hBz.out⟩
              case round =>
                clear hBz
                obtain ⟨k, hk, rfl, hy⟩ := hrel
                have c1 : wr.cell? ⟨w.heap.size, 1, none⟩ = some (.slice A L.length cap) := (hbx6.out.below hy).cell 1
                have x0 : wr.cell? ⟨n9, 0, none⟩ = some (.int .i64 next) := (hx.out.below hy).cell 0
                have x1 : wr.cell? ⟨n9, 1, none⟩ = some (.slice A8 N.length c8) := (hx.out.below hy).cell 1
                by_cases hlt : k < L.length
                · have hkN : k < N.length := by rw [hNl.out]; exact hlt
                  have q4 : (k : Int) < (L.length : Int) := by omega
                  have q5 : (k : Int) < (N.length : Int) := by omega
                  have q6 : decide ((N.length : Int) ≤ (k : Int)) = false := decide_eq_false (by omega)
                  have q7 : decide (N.length ≤ k) = false := decide_eq_false (by omega)
                  have c0 : wr.cell? ⟨w.heap.size, 0, none⟩ = some (.int .i64 next) := (hbx6.out.below hy).cell 0
                  obtain ⟨bo, oo, capo, e, _, _, hbol, f⟩ := obs_at hL6.out (by omega)
                  injection e with e1 e2 e3
                  subst e1 e3
                  obtain ⟨c2, _, _, _, _, _⟩ := f k hlt
                  clear f
                  obtain ⟨bx, ox, capx, e, _, _, hbxl, f⟩ := obs_at hN.out (by omega)
                  injection e with e1 e2 e3
                  subst e1 e3
                  obtain ⟨_, _, _, x2, _, _⟩ := f k hkN
                  clear f
                  have hr6 := (hN.out.each N[k] (List.getElem_mem hkN)).rows
                  rw [hNr.out k hlt hkN] at hr6
                  have hRR := tab_len (L := L) (E := M) (name := L[k].name) hrl.out (by omega)
                  have kT := fun (W : World) (h : Below wz.heap.size wz W) => tscan_any W next _ L _ M L[k].name ⟨#[]⟩ ⟨#[]⟩ (hL6.out.below h) (View.below hM6.out h) (by omega) hrl.out (by omega)
                  rw [filter_in] at kT
                  generalize tab L M L[k].name = RR at *
                  generalize L[k].name = nm at *
                  obtain ⟨Ar, cr, er, _, _⟩ := hr6.cells
                  rw [er] at hr6 x2
                  clear er
                  replace c2 := kc hy c2
                  replace x2 := kc hy x2
                  have hcur := Lib.hid (Below.drew hy)
                  replace hRR : RR.length ≤ 1000000 := by omega
                  replace hr6 := Lib.hid hr6
                  replace kT := Lib.hid kT
                  clear hy x0
                  go_upto_region 17 with fail
                  refine tl_begin (fun (w' : World) => w'.cell? ⟨w.heap.size, 0, none⟩ = some (.int .i64 next) ∧ w'.cell? ⟨w.heap.size, 1, none⟩ = some (.slice (some ⟨bo, oo, none⟩) L.length cap) ∧ w'.cell? ⟨n9, 1, none⟩ = some (.slice (some ⟨bx, ox, none⟩) N.length c8) ∧ w'.cell? ⟨bo, oo + k * 6, none⟩ = some (.string nm) ∧ w'.cell? ⟨bx, ox + k * 6 + 3, none⟩ = some (.slice Ar RR.length cr)) [] (by kernel_rfl) (⟨c0, c1, x1, c2, x2⟩) (fun hHeld => ?_)
                  refine tl_p (i := 0) (v := ?_) rfl (by rfl) (by kernel_rfl) (by kernel_rfl) (by kernel_rfl) (fun _ _ _ h => h) (by rfl) hHeld ?_ ?_
                  rotate_left
                  · intro w
                    go_simp
                    try (with_reducible rfl)
                  try simp only [Act.put, List.setIfInBounds_toArray, List.set_cons_zero, List.set_cons_succ]
                  refine tl_p (i := 1) (v := ?_) rfl (by rfl) (by kernel_rfl) (by kernel_rfl) (by kernel_rfl) (fun _ _ _ h => h) (by rfl) hHeld ?_ ?_
                  rotate_left
                  · intro w
                    go_simp
                    try (with_reducible rfl)
                  try simp only [Act.put, List.setIfInBounds_toArray, List.set_cons_zero, List.set_cons_succ]
                  refine tl_w (i := 2) (v := ?_) rfl (by rfl) (by kernel_rfl) (by kernel_rfl) (by kernel_rfl) (by kernel_rfl) (by kernel_rfl) (fun _ _ _ h => h) (by rfl) hHeld ?_ ?_
                  rotate_left
                  · intro w hSw
                    try dsimp only at hSw
                    go_simp
                    try (with_reducible rfl)
                  try simp only [Act.put, List.setIfInBounds_toArray, List.set_cons_zero, List.set_cons_succ]
                  refine tl_p (i := 3) (v := ?_) rfl (by rfl) (by kernel_rfl) (by kernel_rfl) (by kernel_rfl) (fun _ _ _ h => h) (by rfl) hHeld ?_ ?_
                  rotate_left
                  · intro w
                    go_simp
                    try (with_reducible rfl)
                  try simp only [Act.put, List.setIfInBounds_toArray, List.set_cons_zero, List.set_cons_succ]
                  refine tl_p (i := 4) (v := ?_) rfl (by rfl) (by kernel_rfl) (by kernel_rfl) (by kernel_rfl) (fun _ _ _ h => h) (by rfl) hHeld ?_ ?_
                  rotate_left
                  · intro w
                    go_simp
                    try (with_reducible rfl)
                  try simp only [Act.put, List.setIfInBounds_toArray, List.set_cons_zero, List.set_cons_succ]
                  refine tl_p (i := 5) (v := ?_) rfl (by rfl) (by kernel_rfl) (by kernel_rfl) (by kernel_rfl) (fun _ _ _ h => h) (by rfl) hHeld ?_ ?_
                  rotate_left
                  · intro w
                    go_simp
                    try (with_reducible rfl)
                  try simp only [Act.put, List.setIfInBounds_toArray, List.set_cons_zero, List.set_cons_succ]
                  refine tl_p (i := 6) (v := ?_) rfl (by rfl) (by kernel_rfl) (by kernel_rfl) (by kernel_rfl) (fun _ _ _ h => h) (by rfl) hHeld ?_ ?_
                  rotate_left
                  · intro w
                    go_simp
                    try (with_reducible rfl)
                  try simp only [Act.put, List.setIfInBounds_toArray, List.set_cons_zero, List.set_cons_succ]
                  refine tl_w (i := 7) (v := ?_) rfl (by rfl) (by kernel_rfl) (by kernel_rfl) (by kernel_rfl) (by kernel_rfl) (by kernel_rfl) (fun _ _ _ h => h) (by rfl) hHeld ?_ ?_
                  rotate_left
                  · intro w hSw
                    try dsimp only at hSw
                    go_simp
                    try (with_reducible rfl)
                  try simp only [Act.put, List.setIfInBounds_toArray, List.set_cons_zero, List.set_cons_succ]
                  refine tl_p (i := 8) (v := ?_) rfl (by rfl) (by kernel_rfl) (by kernel_rfl) (by kernel_rfl) (fun _ _ _ h => h) (by rfl) hHeld ?_ ?_
                  rotate_left
                  · intro w
                    go_simp
                    try (with_reducible rfl)
                  try simp only [Act.put, List.setIfInBounds_toArray, List.set_cons_zero, List.set_cons_succ]
                  refine tl_p (i := 9) (v := ?_) rfl (by rfl) (by kernel_rfl) (by kernel_rfl) (by kernel_rfl) (fun _ _ _ h => h) (by rfl) hHeld ?_ ?_
                  rotate_left
                  · intro w
                    go_simp
                    try (with_reducible rfl)
                  try simp only [Act.put, List.setIfInBounds_toArray, List.set_cons_zero, List.set_cons_succ]
                  refine tl_p (i := 10) (v := ?_) rfl (by rfl) (by kernel_rfl) (by kernel_rfl) (by kernel_rfl) (fun _ _ _ h => h) (by rfl) hHeld ?_ ?_
                  rotate_left
                  · intro w
                    go_simp
                    try (with_reducible rfl)
                  try simp only [Act.put, List.setIfInBounds_toArray, List.set_cons_zero, List.set_cons_succ]
                  refine tl_w (i := 11) (v := ?_) rfl (by rfl) (by kernel_rfl) (by kernel_rfl) (by kernel_rfl) (by kernel_rfl) (by kernel_rfl) (fun _ _ _ h => h) (by rfl) hHeld ?_ ?_
                  rotate_left
                  · intro w hSw
                    try dsimp only at hSw
                    go_simp
                    try (with_reducible rfl)
                  try simp only [Act.put, List.setIfInBounds_toArray, List.set_cons_zero, List.set_cons_succ]
                  refine tl_w (i := 12) (v := ?_) rfl (by rfl) (by kernel_rfl) (by kernel_rfl) (by kernel_rfl) (by kernel_rfl) (by kernel_rfl) (fun _ _ _ h => h) (by rfl) hHeld ?_ ?_
                  rotate_left
                  · intro w hSw
                    try dsimp only at hSw
                    go_simp
                    try (with_reducible rfl)
                  try simp only [Act.put, List.setIfInBounds_toArray, List.set_cons_zero, List.set_cons_succ]
                  refine tl_p (i := 13) (v := ?_) rfl (by rfl) (by kernel_rfl) (by kernel_rfl) (by kernel_rfl) (fun _ _ _ h => h) (by rfl) hHeld ?_ ?_
                  rotate_left
                  · intro w
                    go_simp
                    try (with_reducible rfl)
                  try simp only [Act.put, List.setIfInBounds_toArray, List.set_cons_zero, List.set_cons_succ]
                  refine tl_p (i := 14) (v := ?_) rfl (by rfl) (by kernel_rfl) (by kernel_rfl) (by kernel_rfl) (fun _ _ _ h => h) (by rfl) hHeld ?_ ?_
                  rotate_left
                  · intro w
                    go_simp
                    try (with_reducible rfl)
                  try simp only [Act.put, List.setIfInBounds_toArray, List.set_cons_zero, List.set_cons_succ]
                  refine tl_w (i := 15) (v := ?_) rfl (by rfl) (by kernel_rfl) (by kernel_rfl) (by kernel_rfl) (by kernel_rfl) (by kernel_rfl) (fun _ _ _ h => h) (by rfl) hHeld ?_ ?_
                  rotate_left
                  · intro w hSw
                    try dsimp only at hSw
                    go_simp
                    try (with_reducible rfl)
                  try simp only [Act.put, List.setIfInBounds_toArray, List.set_cons_zero, List.set_cons_succ]
                  refine tl_p (i := 16) (v := ?_) rfl (by rfl) (by kernel_rfl) (by kernel_rfl) (by kernel_rfl) (fun _ _ _ h => h) (by rfl) hHeld ?_ ?_
                  rotate_left
                  · intro w
                    go_simp
                    try (with_reducible rfl)
                  try simp only [Act.put, List.setIfInBounds_toArray, List.set_cons_zero, List.set_cons_succ]
                  refine tl_p (i := 17) (v := ?_) rfl (by rfl) (by kernel_rfl) (by kernel_rfl) (by kernel_rfl) (fun _ _ _ h => h) (by rfl) hHeld ?_ ?_
                  rotate_left
                  · intro w
                    go_simp
                    try (with_reducible rfl)
                  try simp only [Act.put, List.setIfInBounds_toArray, List.set_cons_zero, List.set_cons_succ]
                  refine tl_p (i := 18) (v := ?_) rfl (by rfl) (by kernel_rfl) (by kernel_rfl) (by kernel_rfl) (fun _ _ _ h => h) (by rfl) hHeld ?_ ?_
                  rotate_left
                  · intro w
                    go_simp
                    try (with_reducible rfl)
                  try simp only [Act.put, List.setIfInBounds_toArray, List.set_cons_zero, List.set_cons_succ]
                  refine tl_w (i := 19) (v := ?_) rfl (by rfl) (by kernel_rfl) (by kernel_rfl) (by kernel_rfl) (by kernel_rfl) (by kernel_rfl) (fun _ _ _ h => h) (by rfl) hHeld ?_ ?_
                  rotate_left
                  · intro w hSw
                    try dsimp only at hSw
                    go_simp
                    try (with_reducible rfl)
                  try simp only [Act.put, List.setIfInBounds_toArray, List.set_cons_zero, List.set_cons_succ]
                  refine tl_do (i := 20) rfl (by kernel_rfl) (by rfl) (fun K hK => ?_)
                  go_simp
                  go_at_call 32
                  refine (kT.out _ hcur.out).mono ?_; rintro e w8 ⟨v8, rfl, ho8, hb8⟩
                  have hcN := And.intro (kc hb8 hHeld.1) (And.intro (kc hb8 hHeld.2.1) (And.intro (kc hb8 hHeld.2.2.1) (And.intro (kc hb8 hHeld.2.2.2.1) (kc hb8 hHeld.2.2.2.2))))
                  have hcur2 := Lib.hid (hcur.out.trans (hb8.mono hcur.out.size))
                  clear hcur
                  have hcur := hcur2
                  clear hcur2
                  have r8 : Hid (VRows w8 v8 RR) := Lib.hid (View.of_own ho8)
                  clear ho8 hb8
                  try go_wp2_with fail
                  refine hK.out _ _ (hcN) (fun hHeld1 => ?_)
                  clear hK K hHeld
                  have hHeld := hHeld1
                  clear hHeld1
                  try simp only [Act.put, List.setIfInBounds_toArray, List.set_cons_zero, List.set_cons_succ]
                  refine tl_do (i := 21) rfl (by kernel_rfl) (by rfl) (fun K hK => ?_)
                  go_simp
                  go_at_call 16
                  refine (same_rows _ _ _ RR (View.below hr6.out hcur.out) r8.out hRR).mono ?_; rintro e w9 ⟨rfl, hs9⟩
                  have hb9 := Same.below (B := w8.heap.size) hs9
                  have hcN := And.intro (kc hb9 hHeld.1) (And.intro (kc hb9 hHeld.2.1) (And.intro (kc hb9 hHeld.2.2.1) (And.intro (kc hb9 hHeld.2.2.2.1) (kc hb9 hHeld.2.2.2.2))))
                  have hcur2 := Lib.hid (hcur.out.trans (hb9.mono hcur.out.size))
                  clear hcur
                  have hcur := hcur2
                  clear hcur2
                  clear hs9 hb9 r8
                  try go_wp2_with fail
                  refine hK.out _ _ (hcN) (fun hHeld1 => ?_)
                  clear hK K hHeld
                  have hHeld := hHeld1
                  clear hHeld1
                  try simp only [Act.put, List.setIfInBounds_toArray, List.set_cons_zero, List.set_cons_succ]
                  refine tl_p (i := 22) (v := ?_) rfl (by rfl) (by kernel_rfl) (by kernel_rfl) (by kernel_rfl) (fun _ _ _ h => h) (by rfl) hHeld ?_ ?_
                  rotate_left
                  · intro w
                    go_simp
                    try (with_reducible rfl)
                  try simp only [Act.put, List.setIfInBounds_toArray, List.set_cons_zero, List.set_cons_succ]
                  refine tl_p (i := 23) (v := ?_) rfl (by rfl) (by kernel_rfl) (by kernel_rfl) (by kernel_rfl) (fun _ _ _ h => h) (by rfl) hHeld ?_ ?_
                  rotate_left
                  · intro w
                    go_simp
                    try (with_reducible rfl)
                  try simp only [Act.put, List.setIfInBounds_toArray, List.set_cons_zero, List.set_cons_succ]
                  refine till_done (by kernel_rfl) ?_ _
                  clear hHeld
                  go_wp2_with fail
                  go_roundw
                  case rel => exact ⟨k + 1, by omega, by go_num, hcur.out⟩
                  case measure => simp [intOf]; omega
                · have hk3 : k = L.length := by omega
                  subst hk3
                  have q4 : ¬ (L.length : Int) < (L.length : Int) := by omega
                  have kZ := tsettle_any wr next _ N (.slice none 0 0) [] (hN.out.below hy) (View.nil _ _) (by have := hNl.out; omega) (fun o ho => (hNs.out o ho).2) (by simp) (fun o ho => (hNs.out o ho).1) (fun e he => by cases he)
                  rw [show settleTo N [] ([] : List Ef).length = [] from rfl] at kZ
                  have hB7 := Lib.hid (hB6.out.trans (hy.mono hB6.out.size))
                  replace kZ := Lib.hid kZ
                  have hlx7 : n9 < wr.heap.size := Nat.lt_of_lt_of_le hlx hy.size
                  clear hy
                  go_wp2_with fail
                  refine kZ.out.mono ?_; rintro e w9 ⟨v9, rfl, ho9, hb9⟩
                  obtain ⟨A9, c9, rfl, _, _, _⟩ := own_shape ho9
                  have hB9 := Lib.hid (below_then hB7.out hb9)
                  clear ho9 hb9 kZ
                  go_wp2_with fail
                  go_ret
                  exact ⟨rfl, hB9.out⟩
    · have q1 : (40 : Int) < (E.length : Int) := by omega
      clear hff hrl hRo
      go_wp2_with fail
      go_ret
      exact ⟨rfl, hB2.out⟩
theorem txnSettles_walk (W : World) (cs : Array Value) (x0 : KSt.T) (z0 : Rd Try.prog W KSt (Value.agg cs).cells.toList x0) (A1 : Option Addr) (n1 c1 : Nat) (x1 : (Kd.sl 50 KEf).T) (z1 : Rd Try.prog W (.sl 50 KEf) [.slice A1 n1 c1] x1) :
    Calls Try.prog 7 #[.agg cs, .slice A1 n1 c1] W fun e w' => e = .returned (.bool true) ∧ Below W.heap.size W w' := by
  obtain ⟨next, v, L, e, hL, hok, hlen⟩ := st_of_rd z0
  rw [e]
  obtain ⟨E, hE, hEk⟩ := efs_of_rd z1
  exact txnSettles_core W next v L _ E hL hok hlen hE hEk
end Go.Proofs.Ytegomkgfmaclkaa
