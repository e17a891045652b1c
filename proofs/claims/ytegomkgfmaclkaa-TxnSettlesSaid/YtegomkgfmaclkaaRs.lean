/-
  RowsSplit: what is ahead of a key and what is from it on is all.
-/
import Derived.Test.YtegomkgfmaclkaaRw
import Derived.Test.YtegomkgfmaclkaaOpenV
namespace Go.Proofs.Ytegomkgfmaclkaa
open Go.RowKit Go.Proofs.PosteOrd Go.Proofs.PosteMem Go.Proofs.PosteOpen

set_option maxHeartbeats 1000000 in
theorem get_any (w : World) (v : Value) (L : List Row) (key : ByteArray) (i : Nat) (t : Bool) (u : ByteArray) (h : VRows w v L) (hm : L.length ≤ 1000000) (hi : FoundAt L key i t) (hu : t = true → ∃ h : i < L.length, L[i].val = u) (hn : t = false → u = ⟨#[]⟩) :
    Calls Try.prog 55 #[v, .string key] w fun e w' => e = .returned (.tuple #[.string u, .bool t]) ∧ Below w.heap.size w w' := by
  cases t with
  | false =>
    have hu' := hn rfl
    subst hu'
    clear hu hn
    replace h := Lib.hid h
    replace hi := Lib.hid hi
    go_enter Try.func55, Try.ntmps55
    go_wp2_with fail
    refine (find_any _ _ _ _ _ _ h.out hm hi.out).mono ?_; rintro e w1 ⟨rfl, hb1⟩
    go_wp2
    go_ret2
    exact ⟨rfl, hb1⟩
  | true =>
    obtain ⟨hlt, hu'⟩ := hu rfl
    subst hu'
    obtain ⟨b, off, cap', rfl, _, _, hbl, fa⟩ := rows_at h (by omega)
    obtain ⟨p0, p1⟩ := fa i hlt
    clear fa hn hu
    replace h := Lib.hid h
    replace hi := Lib.hid hi
    have q1 : (i : Int) < (L.length : Int) := by omega
    go_enter Try.func55, Try.ntmps55
    go_wp2_with fail
    refine (find_any _ _ _ _ _ _ h.out hm hi.out).mono ?_; rintro e w1 ⟨rfl, hb1⟩
    replace p1 := (hb1.cell (p := ⟨b, off + i * 2 + 1, none⟩) hbl).trans p1
    go_wp2
    go_ret2
    exact ⟨rfl, hb1⟩

def keyB (k : ByteArray) : Bool := decide (1 ≤ k.size) && decide (k.size ≤ 40)
def rightB (x : Row) : Bool := keyB x.key && decide (x.val.size ≤ 100)
set_option maxHeartbeats 1000000 in
theorem key_any (w : World) (k : ByteArray) : Calls Try.prog 84 #[.string k] w fun e w' => e = .returned (.bool (keyB k)) ∧ w = w' := by
  unfold keyB
  go_enter Try.func84, Try.ntmps84
  go_wp2
  all_goals
    go_ret
    refine ⟨ret_bool ?_, rfl⟩
    rw [Bool.eq_iff_iff]
    simp only [Bool.and_eq_true, decide_eq_true_eq, Bool.false_eq_true, false_iff]
    omega
set_option maxHeartbeats 1000000 in
theorem right_any (w : World) (x : Row) : Calls Try.prog 56 #[.agg #[.string x.key, .string x.val]] w fun e w' => e = .returned (.bool (rightB x)) ∧ Below w.heap.size w w' := by
  have hb := (Below.refl w.heap.size w).alloc (Nat.le_refl _) (.cells #[.string x.key, .string x.val] 31)
  unfold rightB
  generalize hk : keyB x.key = g
  replace hk := Lib.hid hk
  by_cases hv : x.val.size ≤ 100
  all_goals cases g
  all_goals
    go_enter Try.func56, Try.ntmps56
    go_wp2_with (go_at_call 84; refine (key_any _ _).mono ?_; rintro e w' ⟨rfl, rfl⟩; rw [hk.out])
    go_ret
    refine ⟨ret_bool ?_, hb⟩
    first | (simp [hv]; done) | (simp [hv]; omega)

set_option maxHeartbeats 2000000 in
theorem alive17 (w : World) : Calls Try.prog 13 #[] w fun e w' => e = .returned (.bool true) ∧ Below w.heap.size w w' := by
  have f1 : FoundAt [] ⟨#[97]⟩ 0 false := ⟨by simp, fun j h => by simp at h, fun h => by simp at h, by simp⟩
  have f2 : FoundAt [⟨⟨#[97]⟩, ⟨#[98]⟩⟩] ⟨#[97]⟩ 0 true := ⟨by simp, fun j h h' => by omega, fun h => by simp [cmpL_self], by simp [cmpL_self]⟩
  have r1 : rightB ⟨⟨#[97]⟩, ⟨#[]⟩⟩ = true := by decide
  have r2 : rightB ⟨⟨#[]⟩, ⟨#[]⟩⟩ = false := by decide
  go_enter Try.func13, Try.ntmps13
  go_wp2_with fail
  refine (get_any _ _ [] _ _ _ ⟨#[]⟩ (View.nil _ _) (by simp) f1 (by simp) (by simp)).mono ?_; rintro e w1 ⟨rfl, hb1⟩
  go_wp2_with fail
  refine (get_any _ _ [⟨⟨#[97]⟩, ⟨#[98]⟩⟩] _ _ _ ⟨#[98]⟩ (View.boxAt (sz := 2) w1 (Row.cells ⟨⟨#[97]⟩, ⟨#[98]⟩⟩) 31 _ rfl rfl) (by simp) f2 (fun _ => ⟨by simp, rfl⟩) (by simp)).mono ?_; rintro e w2 ⟨rfl, hb2⟩
  go_wp2_with fail
  refine (right_any _ ⟨⟨#[97]⟩, ⟨#[]⟩⟩).mono ?_; rintro e w3 ⟨rfl, hb3⟩
  rw [r1]
  go_wp2_with fail
  refine (right_any _ ⟨⟨#[]⟩, ⟨#[]⟩⟩).mono ?_; rintro e w4 ⟨rfl, hb4⟩
  rw [r2]
  go_wp2
  go_ret
  exact ⟨rfl, below_then hb1 (below_then ((Below.refl _ _).alloc (Nat.le_refl _) _) (below_then hb2 (below_then hb3 hb4)))⟩

theorem less_nil (a : List UInt8) : Op.bytesLess a [] = false := by
  rw [← cmpL_nonneg]
  cases a with
  | nil => rw [cmpL_self]; exact Int.le_refl _
  | cons x a => rw [cmpL_cons_nil]; decide
theorem rises_lt {L : List Row} (h : Rises L) : ∀ j (hj : j < L.length) i (hij : i < j), cmpL (L[i]'(by omega)).key.toList L[j].key.toList < 0
  | 0, _, i, hij => by omega
  | j + 1, hj, i, hij => by
    have h1 := h j hj
    rcases Nat.lt_or_ge i j with h2 | h2
    · exact cmpL_lt_trans (rises_lt h j (by omega) i h2) h1
    · obtain rfl : i = j := by omega
      exact h1
theorem rises_pairwise {L : List Row} (h : Rises L) : L.Pairwise fun a b => cmpL a.key.toList b.key.toList < 0 :=
  List.pairwise_iff_getElem.2 fun i j _ hj hij => rises_lt h j hj i hij
theorem split_pairwise (key : ByteArray) (hk : key.toList ≠ []) : ∀ L : List Row, L.Pairwise (fun a b => cmpL a.key.toList b.key.toList < 0) → (L.filter fun r => inB r.key ⟨#[]⟩ key) ++ (L.filter fun r => inB r.key key ⟨#[]⟩) = L
  | [], _ => rfl
  | x :: L, h => by
    have hnil : (⟨#[]⟩ : ByteArray).toList = [] := by rw [ByteArray.toList_eq]
    obtain ⟨h1, h2⟩ := List.pairwise_cons.1 h
    have p1 : ∀ r : Row, inB r.key ⟨#[]⟩ key = Op.bytesLess r.key.toList key.toList := fun r => by
      unfold inB
      rw [hnil, less_nil]
      cases e : key.toList with
      | nil => exact absurd e hk
      | cons a l => rfl
    have p2 : ∀ r : Row, inB r.key key ⟨#[]⟩ = !Op.bytesLess r.key.toList key.toList := fun r => by
      unfold inB
      rw [hnil]
      simp
    simp only [p1, p2]
    have ih := split_pairwise key hk L h2
    simp only [p1, p2] at ih
    cases e : Op.bytesLess x.key.toList key.toList with
    | true =>
      rw [List.filter_cons_of_pos (by exact e), List.filter_cons_of_neg (by rw [e]; decide), List.cons_append, ih]
    | false =>
      have h3 : ∀ y ∈ L, Op.bytesLess y.key.toList key.toList = false := fun y hy => by
        rw [← cmpL_nonneg]
        have h4 := h1 y hy
        rw [← cmpL_nonneg] at e
        rw [cmpL_swap] at e
        have h5 : cmpL key.toList y.key.toList < 0 := cmpL_lt_of_le_lt (by omega) h4
        rw [cmpL_swap] at h5
        omega
      rw [List.filter_cons_of_neg (by rw [e]; decide), List.filter_cons_of_pos (by rw [e]; rfl), List.filter_eq_nil_iff.2 (fun y hy => by rw [h3 y hy]; decide), List.nil_append]
      rw [List.filter_eq_self.2 (fun y hy => by rw [h3 y hy]; rfl)]
theorem range_none (key : ByteArray) (hk : key.toList ≠ []) (L : List Row) : (L.filter fun r => inB r.key key key) = [] := by
  refine List.filter_eq_nil_iff.2 fun y _ => ?_
  unfold inB
  cases Op.bytesLess y.key.toList key.toList <;> cases e : key.toList <;> simp_all

set_option maxRecDepth 100000 in
set_option maxHeartbeats 4000000 in
theorem rowsSplit_core (w : World) (v : Value) (L : List Row) (key : ByteArray) (h : VRows w v L) (hok : RowsOk L) :
    Calls Try.prog 3 #[v, .string key] w fun e w' => e = .returned (.bool true) ∧ Below w.heap.size w w' := by
  obtain ⟨i0, hi0, hz0, hz1, hz2⟩ := info_parts infoRow
  obtain ⟨A, cap, rfl, hc, _⟩ := h.cells
  replace h := Lib.hid h
  replace hok := Lib.hid hok
  by_cases hlen : 60 < L.length
  · have q1 : (60 : Int) < L.length := by omega
    go_enter Try.func3, Try.ntmps3
    go_wp2_with fail
    refine (alive17 _).mono ?_; rintro e w1 ⟨rfl, hb1⟩
    go_wp2
    go_ret
    exact ⟨rfl, hb1⟩
  have q1 : ¬ (60 : Int) < L.length := by omega
  by_cases hris : Rises L
  case neg =>
    have hr := Lib.hid (risesB_not hris)
    go_enter Try.func3, Try.ntmps3
    go_wp2_with fail
    refine (alive17 _).mono ?_; rintro e w1 ⟨rfl, hb1⟩
    have h1 := Lib.hid (View.below h.out hb1)
    go_wp2_with fail
    refine (refRises_any _ _ L h1.out (by omega) hok.out).mono ?_; rintro e w2 ⟨rfl, m2, rfl⟩
    rw [hr.out]
    go_wp2
    go_ret
    exact ⟨rfl, below_dn _ hb1⟩
  have hr := Lib.hid ((risesB_iff L).2 hris)
  by_cases hke : key.toList = []
  · go_enter Try.func3, Try.ntmps3
    go_wp2_with fail
    refine (alive17 _).mono ?_; rintro e w1 ⟨rfl, hb1⟩
    have h1 := Lib.hid (View.below h.out hb1)
    go_wp2_with fail
    refine (refRises_any _ _ L h1.out (by omega) hok.out).mono ?_; rintro e w2 ⟨rfl, m2, rfl⟩
    rw [hr.out]
    go_wp2
    go_ret
    exact ⟨rfl, below_dn _ hb1⟩
  have hke2 : key.toList.isEmpty = false := by
    cases e : key.toList with
    | nil => exact absurd e hke
    | cons _ _ => rfl
  have hall := Lib.hid (split_pairwise key hke L (rises_pairwise hris))
  have hnone := Lib.hid (range_none key hke L)
  go_enter Try.func3, Try.ntmps3
  go_wp2_with fail
  refine (alive17 _).mono ?_; rintro e w1 ⟨rfl, hb1⟩
  have h1 := Lib.hid (View.below h.out hb1)
  go_wp2_with fail
  refine (refRises_any _ _ L h1.out (by omega) hok.out).mono ?_; rintro e w2 ⟨rfl, m2, rfl⟩
  rw [hr.out]
  go_wp2_with fail
  refine (range_any _ _ L _ _ (View.drewN h1.out m2) (by omega)).mono ?_; rintro e w3 ⟨v3, rfl, ho3, hb3⟩
  have h3 := Lib.hid (View.below (View.drewN h1.out m2) hb3)
  go_wp2_with fail
  refine (range_any _ _ L _ _ h3.out (by omega)).mono ?_; rintro e w4 ⟨v4, rfl, ho4, hb4⟩
  have h4 := Lib.hid (View.below h3.out hb4)
  have ho3' := own_below ho3 hb4
  have hb5 := below_then (below_then (below_dn m2 hb1) hb3) hb4
  have hl3 : (L.filter fun r => inB r.key ⟨#[]⟩ key).length ≤ L.length := List.length_filter_le _ _
  have hl4 : (L.filter fun r => inB r.key key ⟨#[]⟩).length ≤ L.length := List.length_filter_le _ _
  generalize hF : (L.filter fun r => inB r.key ⟨#[]⟩ key) = F at *
  generalize hG : (L.filter fun r => inB r.key key ⟨#[]⟩) = G at *
  have hbs := hb5.size
  go_wp2_with (first | (at_builtin; refine wpList_append_new _ rfl (.const (.slice none 0 0)) (.tmp 32) _ rfl w4.heap.size 31 i0 zRow 2 32 Try.underlying22 hi0 hz0 hz1 hz2 rfl (by decide) rfl _ F.length _ rfl (View.of_own ho3') (Row.one _) (by omega) (by simp only [maxLen]; omega) (Nat.le_refl _) ?_; intro A5 c5 w5 hown5 hm5 hc5 hA5 hg5 hat5; have up5 := Upd.of_grown (S := fun _ => False) hg5 (fun _ h => by cases h); have ho4' := own_upd ho4 up5 (fun _ _ h => h)) | (at_builtin; refine wpList_append_view _ rfl (.tmp 33) (.tmp 34) _ rfl w4.heap.size 31 i0 zRow 2 32 Try.underlying22 hi0 hz0 hz1 hz2 rfl (by decide) _ F.length _ rfl hown5 _ G.length _ rfl (View.of_own ho4') (Row.one _) (by omega) (by simp only [maxLen]; omega) (by have := hg5.size; omega) ?_; intro v6 w6 hown6 hg6 hat6))
  have hb6 : Below w4.heap.size w4 w6 := (up5.below (Nat.le_refl _) (fun _ h => h.elim)).trans ((Upd.of_grown (S := fun b => (Value.slice A5 F.length c5).ownBlock = some b) hg6 (fun _ h => h)).below hg5.size (fun b he => (hown5.lt b he).1))
  have ho6 := rows_app hown6
  rw [hall.out] at ho6
  have h6 := Lib.hid (View.below h4.out hb6)
  refine (same_rows _ _ _ L (View.of_own ho6) h6.out (by omega)).mono ?_; rintro e w7 ⟨rfl, m7, rfl⟩
  go_wp2_with fail
  refine (range_any _ _ L _ _ (View.drewN h6.out m7) (by omega)).mono ?_; rintro e w8 ⟨v8, rfl, ho8, hb8⟩
  rw [hnone.out] at ho8
  obtain ⟨A8, c8, rfl, _, _, _⟩ := own_shape ho8
  have hb9 := below_then (below_then hb5 (below_dn m7 hb6)) hb8
  go_wp2
  go_ret
  exact ⟨rfl, hb9⟩

@[reducible] def KRow : Kd := .cons 9 .str (.cons 9 .str .nil)
def rowOf (x : KRow.T) : Row := ⟨x.1, x.2.1⟩
theorem enc_rows (l : List KRow.T) : l.flatMap KRow.enc = (l.map rowOf).flatMap Row.cells := by
  induction l with
  | nil => rfl
  | cons a l ih => rw [List.flatMap_cons, List.map_cons, List.flatMap_cons, ih]; rfl
theorem rows_of_rd {W : World} {A : Option Addr} {n c : Nat} {l : List KRow.T} (r : Rd Try.prog W (.sl 31 KRow) [.slice A n c] l) : VRows W (.slice A n c) (l.map rowOf) ∧ RowsOk (l.map rowOf) := by
  refine ⟨?_, fun x hx => ?_⟩
  · have hv := rd_view_flat rfl r
    rw [enc_rows] at hv
    unfold VRows
    rw [List.length_map]
    exact hv
  · obtain ⟨y, hy, rfl⟩ := List.mem_map.1 hx
    obtain ⟨A', cap, h1, h2, h3, h4, h5, h6⟩ := r
    obtain ⟨i, hi, rfl⟩ := List.getElem_of_mem hy
    obtain ⟨a, c, _, _, _, c1, c2, _, _, ⟨_, hs⟩, _⟩ := h6 i hi
    exact hs
theorem rowsSplit_walk (W : World) (A : Option Addr) (n c : Nat) (l : List KRow.T) (r : Rd Try.prog W (.sl 31 KRow) [.slice A n c] l) (key : ByteArray) (_ : key.size ≤ 140737488351232) :
    Calls Try.prog 3 #[.slice A n c, .string key] W fun e w' => e = .returned (.bool true) ∧ Below W.heap.size W w' :=
  rowsSplit_core W _ _ key (rows_of_rd r).1 (rows_of_rd r).2
end Go.Proofs.Ytegomkgfmaclkaa
