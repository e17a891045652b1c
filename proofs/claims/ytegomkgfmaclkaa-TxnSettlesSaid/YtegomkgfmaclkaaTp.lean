/-
  The reference's Find, PutRow, CutRow and Tall, by their contracts.
-/
import Derived.Test.YtegomkgfmaclkaaTo
set_option linter.unusedVariables false
set_option linter.unusedSimpArgs false
namespace Go.Proofs.Ytegomkgfmaclkaa
open Go.RowKit Go.Proofs.PosteOrd Go.Proofs.PosteMem

set_option maxHeartbeats 4000000 in
theorem refFind_any {w : World} {v : Value} {L : List Row} {key : ByteArray} (h : VRows w v L) (hm : L.length ≤ 1000000) (hok : RowsOk L) (hk : key.size ≤ 140737488351232) :
    Calls Try.prog 43 #[v, .string key] w fun e w' => e = .returned (.tuple #[.int .i64 (pos L key), .bool (hit L key)]) ∧ Same w w' := by
  have hi := found_at L key
  generalize pos L key = i at *
  generalize hit L key = t at *
  obtain ⟨A, cap, rfl, hc, _⟩ := View.cells h
  obtain ⟨hile, hlt, hge, his⟩ := hi
  replace hlt := Lib.hid hlt
  replace hge := Lib.hid hge
  replace his := Lib.hid his
  replace h := Lib.hid h
  replace hok := Lib.hid hok
  go_enter Try.func43, Try.ntmps43
  go_upto_region 2 with fail
  go_loopw [6] (fun q wr => ∃ k m : Nat, k ≤ i ∧ q = .int .i64 k ∧ wr = w.drewN m) (fun q _ => L.length - (intOf q).toNat)
  case atStart => exact ⟨0, 0, by omega, rfl, rfl⟩
  case round =>
    obtain ⟨k, m, hk2, rfl, rfl⟩ := hrel
    by_cases hlt2 : k < L.length
    · have q1 : (k : Int) < (L.length : Int) := by omega
      obtain ⟨b, off, cap', e, _, _, hbl, fa⟩ := rows_at h.out (by omega)
      injection e with e1 e2 e3
      subst e1 e3
      obtain ⟨p0, _⟩ := fa k hlt2
      replace p0 : (w.drewN m).cell? ⟨b, off + k * 2, none⟩ = some (.string L[k].key) := p0
      have hbl2 : b < (w.drewN m).heap.size := hbl
      have hks := hok.out _ (List.getElem_mem hlt2)
      have kK := Lib.hid (refKeys_any L[k].key key (w.drewN m) hks hk)
      by_cases hki : k < i
      · have hneg := hlt.out k hlt2 hki
        generalize cmpL L[k].key.toList key.toList = c at *
        generalize L[k].key = xk at *
        have q2 : ¬ (0 : Int) ≤ c := by omega
        clear fa
        go_wp2_with fail
        refine kK.out.mono ?_; rintro e w2 ⟨rfl, m2, rfl⟩
        go_wp2_with fail
        go_roundw
        case rel => exact ⟨k + 1, m + m2, by omega, by go_num, by simp [World.drewN_drewN]⟩
        case measure => simp [intOf]; omega
      · obtain rfl : k = i := by omega
        have hpos := hge.out hlt2
        have hz : decide (cmpL L[k].key.toList key.toList = 0) = t := by
          cases t with
          | true => obtain ⟨_, h9⟩ := his.out.1 rfl; exact decide_eq_true h9
          | false => exact decide_eq_false fun h9 => by have := his.out.2 ⟨hlt2, h9⟩; cases this
        generalize cmpL L[k].key.toList key.toList = c at *
        generalize L[k].key = xk at *
        clear fa
        have hz2 : (c == 0) = t := by
          rw [← hz]
          by_cases h0 : c = 0
          · subst h0; rfl
          · rw [beq_eq_false_iff_ne.2 h0, decide_eq_false h0]
        replace hz := Lib.hid hz
        go_wp2_with fail
        refine kK.out.mono ?_; rintro e w2 ⟨rfl, m2, rfl⟩
        go_wp2_with fail
        go_ret2
        exact ⟨rfl, m + m2, by simp [World.drewN_drewN]⟩
    · have hkl : k = L.length := by omega
      have hil : i = L.length := by omega
      subst hkl
      obtain rfl : t = false := by
        cases t with
        | false => rfl
        | true => obtain ⟨h9, _⟩ := his.out.1 rfl; omega
      have q1 : ¬ (L.length : Int) < (L.length : Int) := by omega
      replace hil := Lib.hid hil
      go_wp2_with fail
      go_ret2
      exact ⟨by rw [hil.out]; rfl, m, rfl⟩

theorem grown_none {w w' : World} (hg : w.grownBy w' none) : Below w.heap.size w w' := (Below.refl _ _).grown hg (Nat.le_refl _) (fun j hj => by cases hj)
theorem box_of {B : Nat} {w0 w : World} (_ : Below B w0 w) (xs : List Value) (t : TypeId) : View (w.alloc (.cells xs.toArray t)) xs.length (.slice (some ⟨w.heap.size, 0, none⟩) 1 1) 1 xs := View.boxAt (sz := xs.length) w xs t _ rfl rfl
theorem rows_take {w : World} {A : Option Addr} {cap : Nat} {L : List Row} (h : VRows w (.slice A L.length cap) L) {k : Nat} (hk : k ≤ L.length) : View w 2 (.slice A k cap) k ((L.take k).flatMap Row.cells) := by
  rw [← flatMap_take Row.cells 2 Row.len]
  exact View.take h hk
theorem rows_drop {w : World} {b off cap : Nat} {L : List Row} (h : VRows w (.slice (some ⟨b, off, none⟩) L.length cap) L) {k : Nat} (hk : k ≤ L.length) (hc : ¬ cap = k) : View w 2 (.slice (some ⟨b, off + k * 2, none⟩) (L.length - k) (cap - k)) (L.length - k) ((L.drop k).flatMap Row.cells) := by
  have h1 := View.drop h hk
  rw [if_neg hc] at h1
  simp only [Option.map_some] at h1
  rw [show (⟨b, off, none⟩ : Addr).add (k * 2) = ⟨b, off + k * 2, none⟩ by unfold Addr.add; split <;> simp_all, flatMap_drop Row.cells 2 Row.len] at h1
  exact h1
theorem rows_drop0 {w : World} {A : Option Addr} {cap : Nat} {L : List Row} (h : VRows w (.slice A L.length cap) L) {k : Nat} (hk : k ≤ L.length) (hc : cap = k) : View w 2 (.slice A (L.length - k) (cap - k)) (L.length - k) ((L.drop k).flatMap Row.cells) := by
  have h1 := View.drop h hk
  rw [if_pos hc, flatMap_drop Row.cells 2 Row.len] at h1
  exact h1
theorem putS_split (L : List Row) (x : Row) : putS L x = L.take (pos L x.key) ++ x :: L.drop (if hit L x.key = true then pos L x.key + 1 else pos L x.key) := by
  unfold putS putL
  split
  · rename_i h
    have := found_lt (by have := found_at L x.key; rw [h] at this; exact this)
    rw [List.set_eq_take_append_cons_drop, if_pos this]
  · rfl
set_option maxRecDepth 100000 in
set_option maxHeartbeats 8000000 in
theorem refPut_any {w : World} {v : Value} {L : List Row} {x : Row} (h : VRows w v L) (hm : L.length ≤ 900000) (hok : RowsOk L) (hk : x.key.size ≤ 140737488351232) :
    Calls Try.prog 23 #[v, .agg #[.string x.key, .string x.val]] w fun e w' => ∃ v', e = .returned v' ∧ ORows w' w.heap.size v' (putS L x) ∧ Below w.heap.size w w' := by
  obtain ⟨i0, hi0, hz0, hz1, hz2⟩ := info_parts infoRow
  have hsp := putS_split L x
  have hple := pos_le L x.key
  obtain ⟨key, val⟩ := x
  simp only at hsp hple hk
  have hbx := Whole.new w 31 #[.string key, .string val]
  have hb0 := (Below.refl w.heap.size w).alloc (Nat.le_refl _) (.cells #[.string key, .string val] 31)
  have kF := Lib.hid (refFind_any (w := w.alloc (.cells #[.string key, .string val] 31)) (v := v) (L := L) (key := key) (View.below h hb0) (by omega) hok hk)
  have hh : hit L key = true → pos L key + 1 ≤ L.length := fun e => by
    have := found_lt (by have := found_at L key; rw [e] at this; exact this)
    omega
  have d0 : (w.alloc (.cells #[.string key, .string val] 31)).cell? ⟨w.heap.size, 0, none⟩ = some (.string key) := hbx.cell 0
  have d1 : (w.alloc (.cells #[.string key, .string val] 31)).cell? ⟨w.heap.size, 1, none⟩ = some (.string val) := hbx.cell 1
  obtain ⟨A, cap, rfl, hcl, hcm⟩ := View.cells h
  generalize pos L key = i at *
  generalize hit L key = t at *
  have hv0 := Lib.hid (View.below h hb0)
  have hsz : (w.alloc (.cells #[.string key, .string val] 31)).heap.size = w.heap.size + 1 := by simp
  replace hb0 := Lib.hid hb0
  clear hbx h hok
  go_enter Try.func23, Try.ntmps23
  go_wp2_with fail
  refine kF.out.mono ?_; rintro e w2 ⟨rfl, m2, rfl⟩
  generalize hw2 : (w.alloc (.cells #[.string key, .string val] 31)).drewN m2 = w2 at *
  have hBx : Below w.heap.size w w2.drew := by rw [← hw2]; exact Below.drew (below_dn m2 hb0.out)
  have c0 : w2.drew.cell? ⟨w.heap.size, 0, none⟩ = some (.string key) := by rw [← hw2]; exact d0
  have c1 : w2.drew.cell? ⟨w.heap.size, 1, none⟩ = some (.string val) := by rw [← hw2]; exact d1
  have hv2 : VRows w2.drew (.slice A L.length cap) L := by rw [← hw2]; exact hv0.out
  have hlt2 : w.heap.size < w2.drew.heap.size := by rw [← hw2]; show w.heap.size < (w.alloc (.cells #[.string key, .string val] 31)).heap.size; omega
  replace hBx := Lib.hid hBx
  replace hw2 := Lib.hid hw2
  have h1 := Lib.hid (rows_take hv2 hple)
  have hcur := Lib.hid (Below.refl w2.drew.heap.size w2.drew)
  have q1 : (i : Int) ≤ (L.length : Int) := by omega
  have q2 : i ≤ cap := by omega
  have q3 : ¬ (L.length : Int) < (i : Int) := by omega
  have hl1 : (L.take i).length ≤ 900000 := by rw [List.length_take]; omega
  clear kF d0 d1 hv0 hb0
  go_upto_region 2 with fail
  refine tl_begin (fun (w' : World) => w'.cell? ⟨w.heap.size, 0, none⟩ = some (.string key) ∧ w'.cell? ⟨w.heap.size, 1, none⟩ = some (.string val)) [] (by kernel_rfl) (⟨c0, c1⟩) (fun hHeld => ?_)
  refine tl_p (i := 0) (v := ?_) rfl (by rfl) (by kernel_rfl) (by kernel_rfl) (by kernel_rfl) (fun _ _ _ h => h) (by rfl) hHeld ?_ ?_
  rotate_left
  · intro w
    go_simp
    try (with_reducible rfl)
  try simp only [Act.put, List.setIfInBounds_toArray, List.set_cons_zero, List.set_cons_succ]
  refine tl_p (i := 1) (v := ?_) rfl (by rfl) (by kernel_rfl) (by kernel_rfl) (by kernel_rfl) (fun _ _ _ h => h) (by rfl) hHeld ?_ ?_
  rotate_left
  · intro w
    go_simp
    try (with_reducible rfl)
  try simp only [Act.put, List.setIfInBounds_toArray, List.set_cons_zero, List.set_cons_succ]
  refine tl_p (i := 2) (v := ?_) rfl (by rfl) (by kernel_rfl) (by kernel_rfl) (by kernel_rfl) (fun _ _ _ h => h) (by rfl) hHeld ?_ ?_
  rotate_left
  · intro w
    go_simp
    try (with_reducible rfl)
  try simp only [Act.put, List.setIfInBounds_toArray, List.set_cons_zero, List.set_cons_succ]
  refine tl_w (i := 4) (v := ?_) rfl (by rfl) (by kernel_rfl) (by kernel_rfl) (by kernel_rfl) (by kernel_rfl) (by kernel_rfl) (fun _ _ _ h => h) (by rfl) hHeld ?_ ?_
  rotate_left
  · intro w hSw
    try dsimp only at hSw
    go_simp
    try (with_reducible rfl)
  try simp only [Act.put, List.setIfInBounds_toArray, List.set_cons_zero, List.set_cons_succ]
  refine tl_two (i := 3) (j := 5) rfl rfl (by kernel_rfl) (by rfl) (by rfl) (fun K hK => ?_) (fun K hK => ?_)
  · refine wp_append_view _ (.const (.slice none 0 0)) (.tmp 17) _ rfl w2.drew.heap.size 31 i0 zRow 2 32 Try.underlying22 hi0 hz0 hz1 hz2 rfl (by decide) (.slice none 0 0) 0 [] rfl (World.ownsRow_nil _ _ _ _) (.slice A i cap) i _ rfl (View.below h1.out hcur.out) (Row.one (L.take i)) (by omega) (by simp only [maxLen]; omega) hcur.out.size ?_
    intro v5 w5 hown5 hg5 hat5
    rw [Nat.zero_add, List.nil_append] at hown5
    obtain ⟨A5, c5, rfl, _, _, _⟩ := own_shape hown5
    have hb5 := grown_none hg5
    have hcN := And.intro (kc hb5 hHeld.1) (kc hb5 hHeld.2)
    try replace hbox := Lib.hid (View.below hbox.out hb5)
    replace hcur := Lib.hid (hcur.out.trans (hb5.mono hcur.out.size))
    replace hown5 := Lib.hid hown5
    clear hg5 hat5 hb5
    refine hK.out _ _ (hcN) (fun hHeld1 => ?_)
    clear hK K hHeld
    have hHeld := hHeld1
    clear hHeld1
    try simp only [Act.put, List.setIfInBounds_toArray, List.set_cons_zero, List.set_cons_succ]
    refine tl_do (i := 5) rfl (by kernel_rfl) (by rfl) (fun K hK => ?_)
    go_simp
    have hbox := Lib.hid (box_of hcur.out [Value.string key, Value.string val] 31)
    try replace hown5 := Lib.hid (hown5.out.alloc (.cells #[.string key, .string val] 31))
    have hcur2 := Lib.hid (hcur.out.alloc hcur.out.size (.cells #[.string key, .string val] 31))
    clear hcur
    have hcur := hcur2
    clear hcur2
    refine hK.out _ _ (⟨cell_alloc _ hHeld.1, cell_alloc _ hHeld.2⟩) (fun hHeld1 => ?_)
    clear hK K hHeld
    have hHeld := hHeld1
    clear hHeld1
    try simp only [Act.put, List.setIfInBounds_toArray, List.set_cons_zero, List.set_cons_succ]
    refine tl_do (i := 6) rfl (by kernel_rfl) (by rfl) (fun K hK => ?_)
    first | refine wp_append_view _ (.tmp 18) (.tmp 20) _ rfl w2.drew.heap.size 31 i0 zRow 2 32 Try.underlying22 hi0 hz0 hz1 hz2 rfl (by decide) (.slice A5 i c5) i _ rfl hown5.out (.slice (some ⟨w5.heap.size, 0, none⟩) 1 1) 1 [.string key, .string val] rfl hbox.out (by intro u hu; simp only [List.mem_cons, List.not_mem_nil, or_false] at hu; rcases hu with rfl | rfl <;> rfl) (by omega) (by simp only [maxLen]; omega) hcur.out.size ?_ | refine wp_append_view _ (.tmp 18) (.tmp 20) _ rfl w2.drew.heap.size 31 i0 zRow 2 32 Try.underlying22 hi0 hz0 hz1 hz2 rfl (by decide) (.slice A5 i c5) i _ rfl hown5.out (.slice (some ⟨w2.drew.heap.size, 0, none⟩) 1 1) 1 [.string key, .string val] rfl hbox.out (by intro u hu; simp only [List.mem_cons, List.not_mem_nil, or_false] at hu; rcases hu with rfl | rfl <;> rfl) (by omega) (by simp only [maxLen]; omega) hcur.out.size ?_
    intro v6 w6 hown6 hg6 hat6
    have hu6 := Upd.of_grown (S := fun x => (Value.slice A5 i c5).ownBlock = some x) hg6 (fun _ e => e)
    have hne : ¬ (Value.slice A5 i c5).ownBlock = some w.heap.size := fun e => by have := (own_lt hown5.out e).1; omega
    have hcN := And.intro ((hu6.cell (p := ⟨w.heap.size, 0, none⟩) (World.block_lt_of_cell? _ _ hHeld.1) hne).trans hHeld.1) ((hu6.cell (p := ⟨w.heap.size, 1, none⟩) (World.block_lt_of_cell? _ _ hHeld.2) hne).trans hHeld.2)
    replace hcur := Lib.hid (hcur.out.grown hg6 hcur.out.size (fun j hj => (hown5.out.lt j hj).1))
    have hr6 := Lib.hid hown6
    obtain ⟨A6, c6, rfl, _, _, _⟩ := own_shape hown6
    clear hown6 hg6 hat6 hu6
    refine hK.out _ _ (hcN) (fun hHeld1 => ?_)
    clear hK K hHeld
    have hHeld := hHeld1
    clear hHeld1
    try simp only [Act.put, List.setIfInBounds_toArray, List.set_cons_zero, List.set_cons_succ]
    refine tl_p (i := 7) (v := ?_) rfl (by rfl) (by kernel_rfl) (by kernel_rfl) (by kernel_rfl) (fun _ _ _ h => h) (by rfl) hHeld ?_ ?_
    rotate_left
    · intro w
      go_simp
      try (with_reducible rfl)
    try simp only [Act.put, List.setIfInBounds_toArray, List.set_cons_zero, List.set_cons_succ]
    refine till_done (by kernel_rfl) ?_ _
    clear hHeld
    cases t with
    | true =>
      have hi1 := hh rfl
      simp only [if_true] at hsp
      replace hsp := Lib.hid hsp
      have q4 : (i : Int) + 1 ≤ (L.length : Int) := by omega
      have q5 : ¬ (L.length : Int) < (i : Int) + 1 := by omega
      have q6 : (0 : Int) ≤ (i : Int) + 1 := by omega
      have q7 : i + 1 ≤ cap := by omega
      have ew : IntKind.i64.wrap ((i : Int) + 1) = (i : Int) + 1 := by rw [IntKind.wrap_i64]; omega
      have ew2 : ((i : Int) + 1).toNat = i + 1 := by omega
      by_cases q8 : cap = i + 1
      · have h2 := Lib.hid (rows_drop0 hv2 hi1 q8)
        have q9 : (cap = i + 1) = True := eq_true q8
        replace q8 := Lib.hid q8
        have hr6b := hr6.out
        have hfin : ∀ v9 w9, w9.ownsRow w2.drew.heap.size 31 2 v9 (i + 1 + (L.length - (i + 1))) (((L.take i).flatMap Row.cells ++ [Value.string key, Value.string val]) ++ (L.drop (i + 1)).flatMap Row.cells) → ORows w9 w.heap.size v9 (putS L ⟨key, val⟩) := fun v9 w9 ho => by
          have e1 : ((L.take i).flatMap Row.cells ++ [Value.string key, Value.string val]) ++ (L.drop (i + 1)).flatMap Row.cells = (putS L ⟨key, val⟩).flatMap Row.cells := by
            rw [hsp.out, List.flatMap_append, List.flatMap_cons, List.append_assoc]
            rfl
          have e2 : i + 1 + (L.length - (i + 1)) = (putS L ⟨key, val⟩).length := by
            rw [hsp.out, List.length_append, List.length_cons, List.length_take, List.length_drop]
            omega
          rw [e1, e2] at ho
          exact own_mono ho hBx.out.size
        replace hfin := Lib.hid hfin
        have hl9 := Lib.hid (Row.one (L.drop (i + 1)))
        go_wp2_with (at_builtin; refine wpList_append_view _ rfl (.tmp 25) (.tmp 28) _ rfl w2.drew.heap.size 31 i0 zRow 2 32 Try.underlying22 hi0 hz0 hz1 hz2 rfl (by decide) _ (i + 1) _ rfl hr6b _ (L.length - (i + 1)) _ rfl (View.below h2.out hcur.out) hl9.out (by omega) (by simp only [maxLen]; omega) hcur.out.size ?_; intro v9 w9 hown9 hg9 hat9)
        have hw9 := hBx.out.trans ((hcur.out.grown hg9 hcur.out.size (fun j hj => (hr6b.lt j hj).1)).mono hBx.out.size)
        go_ret
        exact ⟨_, rfl, hfin.out _ _ hown9, hw9⟩
      · obtain ⟨b, off, cap', eA, _, _, _, _⟩ := rows_at hv2 (by omega)
        injection eA with eA1 eA2 eA3
        subst eA1 eA3
        have h2 := Lib.hid (rows_drop hv2 hi1 q8)
        have hr6b := hr6.out
        have hfin : ∀ v9 w9, w9.ownsRow w2.drew.heap.size 31 2 v9 (i + 1 + (L.length - (i + 1))) (((L.take i).flatMap Row.cells ++ [Value.string key, Value.string val]) ++ (L.drop (i + 1)).flatMap Row.cells) → ORows w9 w.heap.size v9 (putS L ⟨key, val⟩) := fun v9 w9 ho => by
          have e1 : ((L.take i).flatMap Row.cells ++ [Value.string key, Value.string val]) ++ (L.drop (i + 1)).flatMap Row.cells = (putS L ⟨key, val⟩).flatMap Row.cells := by
            rw [hsp.out, List.flatMap_append, List.flatMap_cons, List.append_assoc]
            rfl
          have e2 : i + 1 + (L.length - (i + 1)) = (putS L ⟨key, val⟩).length := by
            rw [hsp.out, List.length_append, List.length_cons, List.length_take, List.length_drop]
            omega
          rw [e1, e2] at ho
          exact own_mono ho hBx.out.size
        replace hfin := Lib.hid hfin
        have hl9 := Lib.hid (Row.one (L.drop (i + 1)))
        go_wp2_with (at_builtin; refine wpList_append_view _ rfl (.tmp 25) (.tmp 28) _ rfl w2.drew.heap.size 31 i0 zRow 2 32 Try.underlying22 hi0 hz0 hz1 hz2 rfl (by decide) _ (i + 1) _ rfl hr6b _ (L.length - (i + 1)) _ rfl (View.below h2.out hcur.out) hl9.out (by omega) (by simp only [maxLen]; omega) hcur.out.size ?_; intro v9 w9 hown9 hg9 hat9)
        have hw9 := hBx.out.trans ((hcur.out.grown hg9 hcur.out.size (fun j hj => (hr6b.lt j hj).1)).mono hBx.out.size)
        go_ret
        exact ⟨_, rfl, hfin.out _ _ hown9, hw9⟩
    | false =>
      simp only [Bool.false_eq_true, if_false] at hsp
      replace hsp := Lib.hid hsp
      by_cases q8 : cap = i
      · have h2 := Lib.hid (rows_drop0 hv2 hple q8)
        have q9 : (cap = i) = True := eq_true q8
        replace q8 := Lib.hid q8
        have hr6b := hr6.out
        have hfin : ∀ v9 w9, w9.ownsRow w2.drew.heap.size 31 2 v9 (i + 1 + (L.length - i)) (((L.take i).flatMap Row.cells ++ [Value.string key, Value.string val]) ++ (L.drop i).flatMap Row.cells) → ORows w9 w.heap.size v9 (putS L ⟨key, val⟩) := fun v9 w9 ho => by
          have e1 : ((L.take i).flatMap Row.cells ++ [Value.string key, Value.string val]) ++ (L.drop i).flatMap Row.cells = (putS L ⟨key, val⟩).flatMap Row.cells := by
            rw [hsp.out, List.flatMap_append, List.flatMap_cons, List.append_assoc]
            rfl
          have e2 : i + 1 + (L.length - i) = (putS L ⟨key, val⟩).length := by
            rw [hsp.out, List.length_append, List.length_cons, List.length_take, List.length_drop]
            omega
          rw [e1, e2] at ho
          exact own_mono ho hBx.out.size
        replace hfin := Lib.hid hfin
        have hl9 := Lib.hid (Row.one (L.drop i))
        go_wp2_with (at_builtin; refine wpList_append_view _ rfl (.tmp 25) (.tmp 28) _ rfl w2.drew.heap.size 31 i0 zRow 2 32 Try.underlying22 hi0 hz0 hz1 hz2 rfl (by decide) _ (i + 1) _ rfl hr6b _ (L.length - i) _ rfl (View.below h2.out hcur.out) hl9.out (by omega) (by simp only [maxLen]; omega) hcur.out.size ?_; intro v9 w9 hown9 hg9 hat9)
        have hw9 := hBx.out.trans ((hcur.out.grown hg9 hcur.out.size (fun j hj => (hr6b.lt j hj).1)).mono hBx.out.size)
        go_ret
        exact ⟨_, rfl, hfin.out _ _ hown9, hw9⟩
      · rcases Nat.eq_zero_or_pos L.length with h0 | h0
        · have h9 := View.drop hv2 hple
          rw [if_neg q8] at h9
          rcases A with _ | ⟨b, o, sp⟩
          · obtain ⟨_, A', c', eA, _, _, hz, _⟩ := hv2
            injection eA with eA1 eA2 eA3
            have := hz eA1.symm
            omega
          · simp only [Option.map_some] at h9
            have h2 : Hid (View w2.drew 2 (.slice (some (Addr.add ⟨b, o, sp⟩ (i * 2))) (L.length - i) (cap - i)) (L.length - i) ((L.drop i).flatMap Row.cells)) := Lib.hid (by rw [← flatMap_drop Row.cells 2 Row.len]; exact h9)
            clear h9
            replace h0 := Lib.hid h0
            have hr6b := hr6.out
            have hfin : ∀ v9 w9, w9.ownsRow w2.drew.heap.size 31 2 v9 (i + 1 + (L.length - i)) (((L.take i).flatMap Row.cells ++ [Value.string key, Value.string val]) ++ (L.drop i).flatMap Row.cells) → ORows w9 w.heap.size v9 (putS L ⟨key, val⟩) := fun v9 w9 ho => by
              have e1 : ((L.take i).flatMap Row.cells ++ [Value.string key, Value.string val]) ++ (L.drop i).flatMap Row.cells = (putS L ⟨key, val⟩).flatMap Row.cells := by
                rw [hsp.out, List.flatMap_append, List.flatMap_cons, List.append_assoc]
                rfl
              have e2 : i + 1 + (L.length - i) = (putS L ⟨key, val⟩).length := by
                rw [hsp.out, List.length_append, List.length_cons, List.length_take, List.length_drop]
                omega
              rw [e1, e2] at ho
              exact own_mono ho hBx.out.size
            replace hfin := Lib.hid hfin
            have hl9 := Lib.hid (Row.one (L.drop i))
            go_wp2_with (at_builtin; refine wpList_append_view _ rfl (.tmp 25) (.tmp 28) _ rfl w2.drew.heap.size 31 i0 zRow 2 32 Try.underlying22 hi0 hz0 hz1 hz2 rfl (by decide) _ (i + 1) _ rfl hr6b _ (L.length - i) _ rfl (View.below h2.out hcur.out) hl9.out (by omega) (by simp only [maxLen]; omega) hcur.out.size ?_; intro v9 w9 hown9 hg9 hat9)
            have hw9 := hBx.out.trans ((hcur.out.grown hg9 hcur.out.size (fun j hj => (hr6b.lt j hj).1)).mono hBx.out.size)
            go_ret
            exact ⟨_, rfl, hfin.out _ _ hown9, hw9⟩
        · obtain ⟨b, off, cap', eA, _, _, _, _⟩ := rows_at hv2 h0
          injection eA with eA1 eA2 eA3
          subst eA1 eA3
          have h2 := Lib.hid (rows_drop hv2 hple q8)
          have hr6b := hr6.out
          have hfin : ∀ v9 w9, w9.ownsRow w2.drew.heap.size 31 2 v9 (i + 1 + (L.length - i)) (((L.take i).flatMap Row.cells ++ [Value.string key, Value.string val]) ++ (L.drop i).flatMap Row.cells) → ORows w9 w.heap.size v9 (putS L ⟨key, val⟩) := fun v9 w9 ho => by
            have e1 : ((L.take i).flatMap Row.cells ++ [Value.string key, Value.string val]) ++ (L.drop i).flatMap Row.cells = (putS L ⟨key, val⟩).flatMap Row.cells := by
              rw [hsp.out, List.flatMap_append, List.flatMap_cons, List.append_assoc]
              rfl
            have e2 : i + 1 + (L.length - i) = (putS L ⟨key, val⟩).length := by
              rw [hsp.out, List.length_append, List.length_cons, List.length_take, List.length_drop]
              omega
            rw [e1, e2] at ho
            exact own_mono ho hBx.out.size
          replace hfin := Lib.hid hfin
          have hl9 := Lib.hid (Row.one (L.drop i))
          go_wp2_with (at_builtin; refine wpList_append_view _ rfl (.tmp 25) (.tmp 28) _ rfl w2.drew.heap.size 31 i0 zRow 2 32 Try.underlying22 hi0 hz0 hz1 hz2 rfl (by decide) _ (i + 1) _ rfl hr6b _ (L.length - i) _ rfl (View.below h2.out hcur.out) hl9.out (by omega) (by simp only [maxLen]; omega) hcur.out.size ?_; intro v9 w9 hown9 hg9 hat9)
          have hw9 := hBx.out.trans ((hcur.out.grown hg9 hcur.out.size (fun j hj => (hr6b.lt j hj).1)).mono hBx.out.size)
          go_ret
          exact ⟨_, rfl, hfin.out _ _ hown9, hw9⟩
  · go_simp
    have hbox := Lib.hid (box_of hcur.out [Value.string key, Value.string val] 31)
    try replace hown5 := Lib.hid (hown5.out.alloc (.cells #[.string key, .string val] 31))
    have hcur2 := Lib.hid (hcur.out.alloc hcur.out.size (.cells #[.string key, .string val] 31))
    clear hcur
    have hcur := hcur2
    clear hcur2
    refine hK.out _ _ (⟨cell_alloc _ hHeld.1, cell_alloc _ hHeld.2⟩) (fun hHeld1 => ?_)
    clear hK K hHeld
    have hHeld := hHeld1
    clear hHeld1
    try simp only [Act.put, List.setIfInBounds_toArray, List.set_cons_zero, List.set_cons_succ]
    refine tl_do (i := 3) rfl (by kernel_rfl) (by rfl) (fun K hK => ?_)
    refine wp_append_view _ (.const (.slice none 0 0)) (.tmp 17) _ rfl w2.drew.heap.size 31 i0 zRow 2 32 Try.underlying22 hi0 hz0 hz1 hz2 rfl (by decide) (.slice none 0 0) 0 [] rfl (World.ownsRow_nil _ _ _ _) (.slice A i cap) i _ rfl (View.below h1.out hcur.out) (Row.one (L.take i)) (by omega) (by simp only [maxLen]; omega) hcur.out.size ?_
    intro v5 w5 hown5 hg5 hat5
    rw [Nat.zero_add, List.nil_append] at hown5
    obtain ⟨A5, c5, rfl, _, _, _⟩ := own_shape hown5
    have hb5 := grown_none hg5
    have hcN := And.intro (kc hb5 hHeld.1) (kc hb5 hHeld.2)
    try replace hbox := Lib.hid (View.below hbox.out hb5)
    replace hcur := Lib.hid (hcur.out.trans (hb5.mono hcur.out.size))
    replace hown5 := Lib.hid hown5
    clear hg5 hat5 hb5
    refine hK.out _ _ (hcN) (fun hHeld1 => ?_)
    clear hK K hHeld
    have hHeld := hHeld1
    clear hHeld1
    try simp only [Act.put, List.setIfInBounds_toArray, List.set_cons_zero, List.set_cons_succ]
    refine tl_do (i := 6) rfl (by kernel_rfl) (by rfl) (fun K hK => ?_)
    first | refine wp_append_view _ (.tmp 18) (.tmp 20) _ rfl w2.drew.heap.size 31 i0 zRow 2 32 Try.underlying22 hi0 hz0 hz1 hz2 rfl (by decide) (.slice A5 i c5) i _ rfl hown5.out (.slice (some ⟨w5.heap.size, 0, none⟩) 1 1) 1 [.string key, .string val] rfl hbox.out (by intro u hu; simp only [List.mem_cons, List.not_mem_nil, or_false] at hu; rcases hu with rfl | rfl <;> rfl) (by omega) (by simp only [maxLen]; omega) hcur.out.size ?_ | refine wp_append_view _ (.tmp 18) (.tmp 20) _ rfl w2.drew.heap.size 31 i0 zRow 2 32 Try.underlying22 hi0 hz0 hz1 hz2 rfl (by decide) (.slice A5 i c5) i _ rfl hown5.out (.slice (some ⟨w2.drew.heap.size, 0, none⟩) 1 1) 1 [.string key, .string val] rfl hbox.out (by intro u hu; simp only [List.mem_cons, List.not_mem_nil, or_false] at hu; rcases hu with rfl | rfl <;> rfl) (by omega) (by simp only [maxLen]; omega) hcur.out.size ?_
    intro v6 w6 hown6 hg6 hat6
    have hu6 := Upd.of_grown (S := fun x => (Value.slice A5 i c5).ownBlock = some x) hg6 (fun _ e => e)
    have hne : ¬ (Value.slice A5 i c5).ownBlock = some w.heap.size := fun e => by have := (own_lt hown5.out e).1; omega
    have hcN := And.intro ((hu6.cell (p := ⟨w.heap.size, 0, none⟩) (World.block_lt_of_cell? _ _ hHeld.1) hne).trans hHeld.1) ((hu6.cell (p := ⟨w.heap.size, 1, none⟩) (World.block_lt_of_cell? _ _ hHeld.2) hne).trans hHeld.2)
    replace hcur := Lib.hid (hcur.out.grown hg6 hcur.out.size (fun j hj => (hown5.out.lt j hj).1))
    have hr6 := Lib.hid hown6
    obtain ⟨A6, c6, rfl, _, _, _⟩ := own_shape hown6
    clear hown6 hg6 hat6 hu6
    refine hK.out _ _ (hcN) (fun hHeld1 => ?_)
    clear hK K hHeld
    have hHeld := hHeld1
    clear hHeld1
    try simp only [Act.put, List.setIfInBounds_toArray, List.set_cons_zero, List.set_cons_succ]
    refine tl_p (i := 7) (v := ?_) rfl (by rfl) (by kernel_rfl) (by kernel_rfl) (by kernel_rfl) (fun _ _ _ h => h) (by rfl) hHeld ?_ ?_
    rotate_left
    · intro w
      go_simp
      try (with_reducible rfl)
    try simp only [Act.put, List.setIfInBounds_toArray, List.set_cons_zero, List.set_cons_succ]
    refine till_done (by kernel_rfl) ?_ _
    clear hHeld
    cases t with
    | true =>
      have hi1 := hh rfl
      simp only [if_true] at hsp
      replace hsp := Lib.hid hsp
      have q4 : (i : Int) + 1 ≤ (L.length : Int) := by omega
      have q5 : ¬ (L.length : Int) < (i : Int) + 1 := by omega
      have q6 : (0 : Int) ≤ (i : Int) + 1 := by omega
      have q7 : i + 1 ≤ cap := by omega
      have ew : IntKind.i64.wrap ((i : Int) + 1) = (i : Int) + 1 := by rw [IntKind.wrap_i64]; omega
      have ew2 : ((i : Int) + 1).toNat = i + 1 := by omega
      by_cases q8 : cap = i + 1
      · have h2 := Lib.hid (rows_drop0 hv2 hi1 q8)
        have q9 : (cap = i + 1) = True := eq_true q8
        replace q8 := Lib.hid q8
        have hr6b := hr6.out
        have hfin : ∀ v9 w9, w9.ownsRow w2.drew.heap.size 31 2 v9 (i + 1 + (L.length - (i + 1))) (((L.take i).flatMap Row.cells ++ [Value.string key, Value.string val]) ++ (L.drop (i + 1)).flatMap Row.cells) → ORows w9 w.heap.size v9 (putS L ⟨key, val⟩) := fun v9 w9 ho => by
          have e1 : ((L.take i).flatMap Row.cells ++ [Value.string key, Value.string val]) ++ (L.drop (i + 1)).flatMap Row.cells = (putS L ⟨key, val⟩).flatMap Row.cells := by
            rw [hsp.out, List.flatMap_append, List.flatMap_cons, List.append_assoc]
            rfl
          have e2 : i + 1 + (L.length - (i + 1)) = (putS L ⟨key, val⟩).length := by
            rw [hsp.out, List.length_append, List.length_cons, List.length_take, List.length_drop]
            omega
          rw [e1, e2] at ho
          exact own_mono ho hBx.out.size
        replace hfin := Lib.hid hfin
        have hl9 := Lib.hid (Row.one (L.drop (i + 1)))
        go_wp2_with (at_builtin; refine wpList_append_view _ rfl (.tmp 25) (.tmp 28) _ rfl w2.drew.heap.size 31 i0 zRow 2 32 Try.underlying22 hi0 hz0 hz1 hz2 rfl (by decide) _ (i + 1) _ rfl hr6b _ (L.length - (i + 1)) _ rfl (View.below h2.out hcur.out) hl9.out (by omega) (by simp only [maxLen]; omega) hcur.out.size ?_; intro v9 w9 hown9 hg9 hat9)
        have hw9 := hBx.out.trans ((hcur.out.grown hg9 hcur.out.size (fun j hj => (hr6b.lt j hj).1)).mono hBx.out.size)
        go_ret
        exact ⟨_, rfl, hfin.out _ _ hown9, hw9⟩
      · obtain ⟨b, off, cap', eA, _, _, _, _⟩ := rows_at hv2 (by omega)
        injection eA with eA1 eA2 eA3
        subst eA1 eA3
        have h2 := Lib.hid (rows_drop hv2 hi1 q8)
        have hr6b := hr6.out
        have hfin : ∀ v9 w9, w9.ownsRow w2.drew.heap.size 31 2 v9 (i + 1 + (L.length - (i + 1))) (((L.take i).flatMap Row.cells ++ [Value.string key, Value.string val]) ++ (L.drop (i + 1)).flatMap Row.cells) → ORows w9 w.heap.size v9 (putS L ⟨key, val⟩) := fun v9 w9 ho => by
          have e1 : ((L.take i).flatMap Row.cells ++ [Value.string key, Value.string val]) ++ (L.drop (i + 1)).flatMap Row.cells = (putS L ⟨key, val⟩).flatMap Row.cells := by
            rw [hsp.out, List.flatMap_append, List.flatMap_cons, List.append_assoc]
            rfl
          have e2 : i + 1 + (L.length - (i + 1)) = (putS L ⟨key, val⟩).length := by
            rw [hsp.out, List.length_append, List.length_cons, List.length_take, List.length_drop]
            omega
          rw [e1, e2] at ho
          exact own_mono ho hBx.out.size
        replace hfin := Lib.hid hfin
        have hl9 := Lib.hid (Row.one (L.drop (i + 1)))
        go_wp2_with (at_builtin; refine wpList_append_view _ rfl (.tmp 25) (.tmp 28) _ rfl w2.drew.heap.size 31 i0 zRow 2 32 Try.underlying22 hi0 hz0 hz1 hz2 rfl (by decide) _ (i + 1) _ rfl hr6b _ (L.length - (i + 1)) _ rfl (View.below h2.out hcur.out) hl9.out (by omega) (by simp only [maxLen]; omega) hcur.out.size ?_; intro v9 w9 hown9 hg9 hat9)
        have hw9 := hBx.out.trans ((hcur.out.grown hg9 hcur.out.size (fun j hj => (hr6b.lt j hj).1)).mono hBx.out.size)
        go_ret
        exact ⟨_, rfl, hfin.out _ _ hown9, hw9⟩
    | false =>
      simp only [Bool.false_eq_true, if_false] at hsp
      replace hsp := Lib.hid hsp
      by_cases q8 : cap = i
      · have h2 := Lib.hid (rows_drop0 hv2 hple q8)
        have q9 : (cap = i) = True := eq_true q8
        replace q8 := Lib.hid q8
        have hr6b := hr6.out
        have hfin : ∀ v9 w9, w9.ownsRow w2.drew.heap.size 31 2 v9 (i + 1 + (L.length - i)) (((L.take i).flatMap Row.cells ++ [Value.string key, Value.string val]) ++ (L.drop i).flatMap Row.cells) → ORows w9 w.heap.size v9 (putS L ⟨key, val⟩) := fun v9 w9 ho => by
          have e1 : ((L.take i).flatMap Row.cells ++ [Value.string key, Value.string val]) ++ (L.drop i).flatMap Row.cells = (putS L ⟨key, val⟩).flatMap Row.cells := by
            rw [hsp.out, List.flatMap_append, List.flatMap_cons, List.append_assoc]
            rfl
          have e2 : i + 1 + (L.length - i) = (putS L ⟨key, val⟩).length := by
            rw [hsp.out, List.length_append, List.length_cons, List.length_take, List.length_drop]
            omega
          rw [e1, e2] at ho
          exact own_mono ho hBx.out.size
        replace hfin := Lib.hid hfin
        have hl9 := Lib.hid (Row.one (L.drop i))
        go_wp2_with (at_builtin; refine wpList_append_view _ rfl (.tmp 25) (.tmp 28) _ rfl w2.drew.heap.size 31 i0 zRow 2 32 Try.underlying22 hi0 hz0 hz1 hz2 rfl (by decide) _ (i + 1) _ rfl hr6b _ (L.length - i) _ rfl (View.below h2.out hcur.out) hl9.out (by omega) (by simp only [maxLen]; omega) hcur.out.size ?_; intro v9 w9 hown9 hg9 hat9)
        have hw9 := hBx.out.trans ((hcur.out.grown hg9 hcur.out.size (fun j hj => (hr6b.lt j hj).1)).mono hBx.out.size)
        go_ret
        exact ⟨_, rfl, hfin.out _ _ hown9, hw9⟩
      · rcases Nat.eq_zero_or_pos L.length with h0 | h0
        · have h9 := View.drop hv2 hple
          rw [if_neg q8] at h9
          rcases A with _ | ⟨b, o, sp⟩
          · obtain ⟨_, A', c', eA, _, _, hz, _⟩ := hv2
            injection eA with eA1 eA2 eA3
            have := hz eA1.symm
            omega
          · simp only [Option.map_some] at h9
            have h2 : Hid (View w2.drew 2 (.slice (some (Addr.add ⟨b, o, sp⟩ (i * 2))) (L.length - i) (cap - i)) (L.length - i) ((L.drop i).flatMap Row.cells)) := Lib.hid (by rw [← flatMap_drop Row.cells 2 Row.len]; exact h9)
            clear h9
            replace h0 := Lib.hid h0
            have hr6b := hr6.out
            have hfin : ∀ v9 w9, w9.ownsRow w2.drew.heap.size 31 2 v9 (i + 1 + (L.length - i)) (((L.take i).flatMap Row.cells ++ [Value.string key, Value.string val]) ++ (L.drop i).flatMap Row.cells) → ORows w9 w.heap.size v9 (putS L ⟨key, val⟩) := fun v9 w9 ho => by
              have e1 : ((L.take i).flatMap Row.cells ++ [Value.string key, Value.string val]) ++ (L.drop i).flatMap Row.cells = (putS L ⟨key, val⟩).flatMap Row.cells := by
                rw [hsp.out, List.flatMap_append, List.flatMap_cons, List.append_assoc]
                rfl
              have e2 : i + 1 + (L.length - i) = (putS L ⟨key, val⟩).length := by
                rw [hsp.out, List.length_append, List.length_cons, List.length_take, List.length_drop]
                omega
              rw [e1, e2] at ho
              exact own_mono ho hBx.out.size
            replace hfin := Lib.hid hfin
            have hl9 := Lib.hid (Row.one (L.drop i))
            go_wp2_with (at_builtin; refine wpList_append_view _ rfl (.tmp 25) (.tmp 28) _ rfl w2.drew.heap.size 31 i0 zRow 2 32 Try.underlying22 hi0 hz0 hz1 hz2 rfl (by decide) _ (i + 1) _ rfl hr6b _ (L.length - i) _ rfl (View.below h2.out hcur.out) hl9.out (by omega) (by simp only [maxLen]; omega) hcur.out.size ?_; intro v9 w9 hown9 hg9 hat9)
            have hw9 := hBx.out.trans ((hcur.out.grown hg9 hcur.out.size (fun j hj => (hr6b.lt j hj).1)).mono hBx.out.size)
            go_ret
            exact ⟨_, rfl, hfin.out _ _ hown9, hw9⟩
        · obtain ⟨b, off, cap', eA, _, _, _, _⟩ := rows_at hv2 h0
          injection eA with eA1 eA2 eA3
          subst eA1 eA3
          have h2 := Lib.hid (rows_drop hv2 hple q8)
          have hr6b := hr6.out
          have hfin : ∀ v9 w9, w9.ownsRow w2.drew.heap.size 31 2 v9 (i + 1 + (L.length - i)) (((L.take i).flatMap Row.cells ++ [Value.string key, Value.string val]) ++ (L.drop i).flatMap Row.cells) → ORows w9 w.heap.size v9 (putS L ⟨key, val⟩) := fun v9 w9 ho => by
            have e1 : ((L.take i).flatMap Row.cells ++ [Value.string key, Value.string val]) ++ (L.drop i).flatMap Row.cells = (putS L ⟨key, val⟩).flatMap Row.cells := by
              rw [hsp.out, List.flatMap_append, List.flatMap_cons, List.append_assoc]
              rfl
            have e2 : i + 1 + (L.length - i) = (putS L ⟨key, val⟩).length := by
              rw [hsp.out, List.length_append, List.length_cons, List.length_take, List.length_drop]
              omega
            rw [e1, e2] at ho
            exact own_mono ho hBx.out.size
          replace hfin := Lib.hid hfin
          have hl9 := Lib.hid (Row.one (L.drop i))
          go_wp2_with (at_builtin; refine wpList_append_view _ rfl (.tmp 25) (.tmp 28) _ rfl w2.drew.heap.size 31 i0 zRow 2 32 Try.underlying22 hi0 hz0 hz1 hz2 rfl (by decide) _ (i + 1) _ rfl hr6b _ (L.length - i) _ rfl (View.below h2.out hcur.out) hl9.out (by omega) (by simp only [maxLen]; omega) hcur.out.size ?_; intro v9 w9 hown9 hg9 hat9)
          have hw9 := hBx.out.trans ((hcur.out.grown hg9 hcur.out.size (fun j hj => (hr6b.lt j hj).1)).mono hBx.out.size)
          go_ret
          exact ⟨_, rfl, hfin.out _ _ hown9, hw9⟩
end Go.Proofs.Ytegomkgfmaclkaa
