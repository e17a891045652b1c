/-
  NodeHalf: halves are as long, or the first one longer by one, and together all.
-/
import Derived.Test.YtegomkgfmaclkaaNo
import Derived.Test.YtegomkgfmaclkaaRs
set_option linter.unusedVariables false
namespace Go.Proofs.Ytegomkgfmaclkaa
open Go.RowKit Go.Proofs.PosteOrd Go.Proofs.PosteMem Go.Proofs.PosteOpen

set_option maxRecDepth 100000 in
set_option maxHeartbeats 4000000 in
theorem nodeHalf_core (w : World) (v : Value) (L : List Row) (h : VRows w v L) :
    Calls Try.prog 4 #[v] w fun e w' => e = .returned (.bool true) ∧ Below w.heap.size w w' := by
  obtain ⟨i0, hi0, hz0, hz1, hz2⟩ := info_parts infoRow
  obtain ⟨A, cap, rfl, hc, hcm⟩ := h.cells
  replace h := Lib.hid h
  by_cases hlen : 60 < L.length
  · have q1 : (60 : Int) < L.length := by omega
    go_enter Try.func4, Try.ntmps4
    go_wp2_with fail
    refine (alive7 _).mono ?_; rintro e w1 ⟨rfl, hb1⟩
    go_wp2
    go_ret
    exact ⟨rfl, hb1⟩
  have q1 : ¬ (60 : Int) < L.length := by omega
  have hn : halfN L ≤ L.length := by unfold halfN; omega
  have l1 : (L.take (halfN L)).length = halfN L := by rw [List.length_take, Nat.min_eq_left hn]
  have l2 : (L.drop (halfN L)).length = L.length - halfN L := by rw [List.length_drop]
  have hall := List.take_append_drop (halfN L) L
  have hcase : (L.take (halfN L)).length = (L.drop (halfN L)).length ∨ (L.take (halfN L)).length = (L.drop (halfN L)).length + 1 := by rw [l1, l2]; unfold halfN; omega
  have lF : (L.take (halfN L)).length ≤ 60 := by omega
  have lG : (L.drop (halfN L)).length ≤ 60 := by omega
  clear l1 l2 hn
  go_enter Try.func4, Try.ntmps4
  go_wp2_with fail
  refine (alive7 _).mono ?_; rintro e w1 ⟨rfl, hb1⟩
  have h1 := Lib.hid (View.below h.out hb1)
  go_wp2_with fail
  refine (halves_any _ _ L h1.out (by omega)).mono ?_; rintro e w2 ⟨v1, v2, rfl, ho1, ho2, hb2⟩
  have h2 := Lib.hid (View.below h1.out hb2)
  have hb3 := below_then hb1 hb2
  generalize L.take (halfN L) = F at *
  generalize L.drop (halfN L) = G at *
  obtain ⟨A1, c1, rfl, d1, d2, d3⟩ := own_shape ho1
  obtain ⟨A2, c2, rfl, d4, d5, d6⟩ := own_shape ho2
  replace ho1 := Lib.hid ho1
  replace ho2 := Lib.hid ho2
  replace hall := Lib.hid hall
  have hbs := hb3.size
  have hbs2 := hb2.size
  by_cases hq : F.length = G.length
  · have q5 : ((F.length : Int) == (G.length : Int)) = true := by rw [hq]; exact beq_self_eq_true _
    replace hq := Lib.hid hq
    go_wp2_with (first | (at_builtin; refine wpList_append_want _ (by rfl) (.const (.slice none 0 0)) (.tmp 34) _ rfl w2.heap.size 31 i0 zRow 2 32 Try.underlying22 hi0 hz0 hz1 hz2 rfl (by decide) _ 0 [] rfl (World.ownsRow_nil _ _ _ _) _ F.length _ rfl (View.of_own ho1.out) (Row.one _) (by omega) (by simp only [maxLen]; omega) (Nat.le_refl _) ?_; intro v5 w5 hown5 hg5 hat5; rw [Nat.zero_add, List.nil_append] at hown5; obtain ⟨A5, c5, rfl, hm5, hc5, hA5⟩ := own_shape hown5; have up5 := Upd.of_grown (S := fun _ => False) hg5 (fun _ h => by cases h); have ho4' := own_upd ho2.out up5 (fun _ _ h => h)) | (at_builtin; refine wpList_append_want _ (by rfl) (.tmp 35) (.tmp 36) _ rfl w2.heap.size 31 i0 zRow 2 32 Try.underlying22 hi0 hz0 hz1 hz2 rfl (by decide) _ F.length _ rfl hown5 _ G.length _ rfl (View.of_own ho4') (Row.one _) (by omega) (by simp only [maxLen]; omega) (by have := hg5.size; omega) ?_; intro v6 w6 hown6 hg6 hat6))
    have hb6 : Below w2.heap.size w2 w6 := (up5.below (Nat.le_refl _) (fun _ h => h.elim)).trans ((Upd.of_grown (S := fun b => (Value.slice A5 F.length c5).ownBlock = some b) hg6 (fun _ h => h)).below hg5.size (fun b he => (hown5.lt b he).1))
    have ho6 := rows_app hown6
    rw [hall.out] at ho6
    have h6 := Lib.hid (View.below h2.out hb6)
    refine (same_rows _ _ _ L (View.of_own ho6) h6.out (by omega)).mono ?_; rintro e w7 ⟨rfl, m7, rfl⟩
    go_wp2_with fail
    go_ret
    exact ⟨rfl, below_dn m7 (below_then hb3 hb6)⟩
  · have q4 : F.length = G.length + 1 := by omega
    have q5 : ((F.length : Int) == (G.length : Int)) = false := beq_eq_false_iff_ne.2 (by omega)
    have q6 : ((F.length : Int) == (G.length : Int) + 1) = true := by rw [q4]; exact beq_self_eq_true _
    replace q4 := Lib.hid q4
    go_wp2_with (first | (at_builtin; refine wpList_append_want _ (by rfl) (.const (.slice none 0 0)) (.tmp 34) _ rfl w2.heap.size 31 i0 zRow 2 32 Try.underlying22 hi0 hz0 hz1 hz2 rfl (by decide) _ 0 [] rfl (World.ownsRow_nil _ _ _ _) _ F.length _ rfl (View.of_own ho1.out) (Row.one _) (by omega) (by simp only [maxLen]; omega) (Nat.le_refl _) ?_; intro v5 w5 hown5 hg5 hat5; rw [Nat.zero_add, List.nil_append] at hown5; obtain ⟨A5, c5, rfl, hm5, hc5, hA5⟩ := own_shape hown5; have up5 := Upd.of_grown (S := fun _ => False) hg5 (fun _ h => by cases h); have ho4' := own_upd ho2.out up5 (fun _ _ h => h)) | (at_builtin; refine wpList_append_want _ (by rfl) (.tmp 35) (.tmp 36) _ rfl w2.heap.size 31 i0 zRow 2 32 Try.underlying22 hi0 hz0 hz1 hz2 rfl (by decide) _ F.length _ rfl hown5 _ G.length _ rfl (View.of_own ho4') (Row.one _) (by omega) (by simp only [maxLen]; omega) (by have := hg5.size; omega) ?_; intro v6 w6 hown6 hg6 hat6))
    have hb6 : Below w2.heap.size w2 w6 := (up5.below (Nat.le_refl _) (fun _ h => h.elim)).trans ((Upd.of_grown (S := fun b => (Value.slice A5 F.length c5).ownBlock = some b) hg6 (fun _ h => h)).below hg5.size (fun b he => (hown5.lt b he).1))
    have ho6 := rows_app hown6
    rw [hall.out] at ho6
    have h6 := Lib.hid (View.below h2.out hb6)
    refine (same_rows _ _ _ L (View.of_own ho6) h6.out (by omega)).mono ?_; rintro e w7 ⟨rfl, m7, rfl⟩
    go_wp2_with fail
    go_ret
    exact ⟨rfl, below_dn m7 (below_then hb3 hb6)⟩
theorem nodeHalf_walk (W : World) (A : Option Addr) (n c : Nat) (l : List KRow.T) (r : Rd Try.prog W (.sl 31 KRow) [.slice A n c] l) :
    Calls Try.prog 4 #[.slice A n c] W fun e w' => e = .returned (.bool true) ∧ Below W.heap.size W w' :=
  nodeHalf_core W _ _ (rows_of_rd r).1
end Go.Proofs.Ytegomkgfmaclkaa
