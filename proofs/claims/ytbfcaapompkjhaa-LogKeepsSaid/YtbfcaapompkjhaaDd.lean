/-
  A disk's Write by its contract.
-/
import Derived.Test.YtbfcaapompkjhaaDc
set_option linter.unusedVariables false
set_option linter.unusedSimpArgs false
namespace Go.Proofs.Ytbfcaapompkjhaa
open Go.RowKit Go.Proofs.PosteMem
attribute [local go_sem ↓] Go.wp_at_zero Go.wp_at_succ

theorem write_no {D : Dk} {i : Int} {bs : List Int} (h : i < 0 ∨ (D.now.length : Int) ≤ i ∨ bs.length ≠ 64 ∨ D.broken = true) : D.write i bs = (D, false) := by
  unfold Dk.write
  rw [if_pos h]
set_option maxRecDepth 100000 in
set_option maxHeartbeats 4000000 in
theorem write_any (w : World) (F : Nat → Prop) (p : Nat) (D : Dk) (i : Int) (v : Value) (bs : List Int) (h : DiskAt w F p D) (hk : D.ok) (hv : VB w v bs) (hvF : ∀ b, blockOf v = some b → ¬ F b) (hw : D.written ≤ 1000000000000) (hu : D.uns.length ≤ 1000000) :
    Calls Try.prog 17 #[.pointer (some ⟨p, 0, none⟩), .int .i64 i, v] w fun e w' => e = .returned (.bool (D.write i bs).2) ∧ Post w F p (D.write i bs).1 w' := by
  have kL := Lib.hid (len_any w F p D h)
  have hp0 := Lib.hid (DiskAt.fr_self h)
  by_cases h1 : i < 0
  · rw [write_no (.inl h1)]
    go_enter Try.func17, Try.ntmps17
    go_wp2_with fail
    go_ret
    exact ⟨rfl, hp0.out⟩
  obtain ⟨k, rfl⟩ : ∃ k : Nat, i = k := ⟨i.toNat, by omega⟩
  by_cases h2 : D.now.length ≤ k
  · rw [write_no (.inr (.inl (by omega)))]
    have h2' : (D.now.length : Int) ≤ (k : Int) := by omega
    go_enter Try.func17, Try.ntmps17
    go_wp2_with fail
    refine kL.out.mono ?_; rintro e w1 ⟨rfl, rfl⟩
    go_wp2_with fail
    go_ret
    exact ⟨rfl, hp0.out⟩
  have q2 : ¬ (D.now.length : Int) ≤ (k : Int) := by omega
  obtain ⟨A, cv, rfl, _, _⟩ := hv.cells
  by_cases h3 : bs.length ≠ 64
  · rw [write_no (.inr (.inr (.inl h3)))]
    have q3 : ((bs.length : Int) == 64) = false := beq_eq_false_iff_ne.2 (by omega)
    clear h hk hv
    go_enter Try.func17, Try.ntmps17
    go_wp2_with fail
    refine kL.out.mono ?_; rintro e w1 ⟨rfl, rfl⟩
    go_wp2_with fail
    go_ret
    exact ⟨rfl, hp0.out⟩
  have q3 : bs.length = 64 := by omega
  obtain ⟨vs, vn, vu, hs, hn, hu', h⟩ := h
  obtain ⟨S, N, U, left, broken, written⟩ := D
  have c4 : w.cell? ⟨p, 4, none⟩ = some (.bool broken) := h.box.cell 4
  simp only at h2 hw hu
  cases broken with
  | true =>
    rw [write_no (.inr (.inr (.inr rfl)))]
    clear h hk hv
    rw [q3]
    go_enter Try.func17, Try.ntmps17
    go_wp2_with fail
    refine kL.out.mono ?_; rintro e w1 ⟨rfl, rfl⟩
    go_wp2_with fail
    go_ret
    exact ⟨rfl, hp0.out⟩
  | false =>
    have hW : Dk.write ⟨S, N, U, left, false, written⟩ (k : Int) bs = (⟨S, N.set k bs, U ++ [(k, bs)], if 0 < left then left - 1 else left, decide (left = 1), written + 1⟩, true) := by
      unfold Dk.write
      rw [if_neg (by simp only [not_or]; exact ⟨h1, q2, fun e => e q3, by simp⟩)]
      simp
    rw [hW]
    obtain ⟨g, cn, rfl, _, _, _, hgl⟩ := own_some h.now (show 0 < N.length by omega)
    have c3 : w.cell? ⟨p, 3, none⟩ = some (.int .i64 left) := h.box.cell 3
    have f3 := h.box.frozen 3
    have f4 := h.box.frozen 4
    have hlow := hk.low
    have hhigh := hk.high
    simp only at hlow hhigh
    clear hW hp0
    obtain ⟨i0, hi0, hz0, hz1, hz2⟩ := info_parts infoWr
    by_cases h5 : 0 < left
    · have q5 : IntKind.i64.wrap (left - 1) = left - 1 := IntWalk.i64_in _ (by omega)
      go_enter Try.func17, Try.ntmps17
      rw [q3]
      go_wp2_with fail
      refine kL.out.mono ?_; rintro e w1 ⟨rfl, rfl⟩
      go_wp2_with fail
      have x1 := h.open.setBox (D' := ⟨S, N, U, left - 1, false, written⟩) 3 (.int .i64 (left - 1)) rfl rfl rfl rfl
      have x2 := x1.setBox (D' := ⟨S, N, U, left - 1, left - 1 == 0, written⟩) 4 (.bool (left - 1 == 0)) rfl rfl rfl rfl
      have acc := ((Upd.refl F w1).setCell (p := ⟨p, 3, none⟩) (.inr h.fp) (.int .i64 (left - 1))).setCell (p := ⟨p, 4, none⟩) (.inr h.fp) (.bool (left - 1 == 0))
      clear x1
      rw [q3] at hv
      have hv1 : VB _ (.slice A 64 cv) bs := View.upd hv acc (q3 ▸ hvF)
      have kC := Lib.hid (cloneB _ _ _ hv1 (by omega))
      clear c3 c4 f3 f4 hv hv1 kL
      refine kC.out.mono ?_; rintro e w2 ⟨v2, rfl, ho, hb⟩
      obtain ⟨g2, c2, rfl, _⟩ := own_some ho (show 0 < bs.length by omega)
      have acc2 : Upd F w1 w2 := acc.trans (T := fun _ => False) (Upd.of_below hb) (fun _ _ t => t.elim)
      have dt : Dt w2 (op F w1) (.slice (some ⟨g2, 0, none⟩) bs.length c2) bs := ⟨g2, c2, rfl, .inr (Nat.le_trans acc.size (own_lt ho rfl).1), own_mono ho (by omega)⟩
      have x3 := x2.below hb
      have x4 := x3.setNow k (by show k < N.length; omega) dt
      have dt4 := dt.keep (Upd.setCell (p := ⟨g, k, none⟩) (Upd.refl _ _) (.inr (notB_own x3.now rfl (by decide))) (.slice (some ⟨g2, 0, none⟩) bs.length c2) : KeepB w2 (w2.setCell ⟨g, k, none⟩ (.slice (some ⟨g2, 0, none⟩) bs.length c2)))
      have acc4 := acc2.setCell (p := ⟨g, k, none⟩) (.inr (h.fn g rfl)) (.slice (some ⟨g2, 0, none⟩) bs.length c2)
      have b1 := x3.box.cell 1
      obtain ⟨u1, b2⟩ : ∃ u, w2.cell? ⟨g, k, none⟩ = some u := ⟨_, own_cell x3.now k (by show k < N.length * 1; omega)⟩
      have b3 := own_free x3.now k
      have hFp := h.fp
      simp only at x4
      rw [q3] at x4 acc4 dt4 ⊢
      clear kC ho hb acc acc2 dt x2 x3 h hk
      replace x4 := Lib.hid x4
      replace acc4 := Lib.hid acc4
      replace dt4 := Lib.hid dt4
      go_upto_region 8 with fail
      clear b1 b2 b3
      generalize w2.setCell ⟨g, k, none⟩ (.slice (some ⟨g2, 0, none⟩) 64 c2) = W4 at *
      replace x4 := x4.out
      have huns := x4.uns
      have hbox := x4.box
      obtain ⟨Au, cu, rfl, _⟩ := own_shape huns
      simp only at huns hbox ⊢
      have hne := own_ne_whole huns hbox (by decide)
      have b1 := hbox.cell 2
      have hxx := Lib.hid (x4.below ((Below.refl W4.heap.size W4).alloc (Nat.le_refl _) (.cells #[.int .i64 k, .slice (some ⟨g2, 0, none⟩) 64 c2] 79)))
      replace hne := Lib.hid hne
      replace x4 := Lib.hid x4
      replace hbox := Lib.hid hbox
      go_upto_region 9 with (at_builtin; refine wpList_append_view _ rfl (.tmp 60) (.tmp 64) _ rfl 0 79 i0 (.agg #[.int .i64 0, .slice none 0 0]) 2 32 Try.underlying73 hi0 hz0 hz1 hz2 rfl (by decide) (.slice Au U.length cu) U.length _ rfl (huns.alloc _) (.slice (some ⟨W4.heap.size, 0, none⟩) 1 1) 1 [.int .i64 k, .slice (some ⟨g2, 0, none⟩) 64 c2] rfl (View.boxAt _ _ _ _ rfl rfl) (by intro u hu; simp only [List.mem_cons, List.not_mem_nil, or_false] at hu; rcases hu with rfl | rfl <;> rfl) (by omega) (by simp only [maxLen]; omega) (by omega) ?_; intro v5 w5 hown5 hg5 hat5; obtain ⟨A5, c5, rfl, _, _, _⟩ := own_shape hown5; have b5 := (hbox.out.alloc _).grown hg5 hne.out; have b5c := b5.cell 2; have b5f := b5.frozen 2)
      have x5 := hxx.out.addUns (hd := .slice (some ⟨g2, 0, none⟩) 64 c2) (i := k) hg5 hown5 (fun b e => by
        rcases hat5 with e2 | e2
        · exact x4.out.fu b (by rw [← e2]; exact e)
        · rw [e2] at e
          injection e with e
          have := acc4.out.size
          have e3 : W4.heap.size + 1 = b := by simpa using e
          exact .inr (by omega)) (dt4.out.upd (S := fun _ => False) (Upd.of_below ((Below.refl W4.heap.size W4).alloc (Nat.le_refl _) _)) (fun _ _ t => t))
      have acc5 : Upd F w1 (w5.setCell ⟨p, 2, none⟩ (.slice A5 (U.length + 1) c5)) := ((acc4.out.alloc _).trans (T := op F w1) (Upd.of_grown hg5 fun b e => x4.out.fu b e) (fun b hb t => by rcases t with t | t; exact t; exact absurd hb (by omega))).setCell (p := ⟨p, 2, none⟩) (.inr hFp) _
      clear hown5 hg5 hat5 hxx b5 b5c b5f hne hbox huns b1 x4 acc4 dt4
      generalize w5.setCell ⟨p, 2, none⟩ (.slice A5 (U.length + 1) c5) = W5 at *
      have q6 : IntKind.i64.wrap ((written : Int) + 1) = (written : Int) + 1 := IntWalk.i64_in _ (by omega)
      have x6 := x5.setBox (D' := ⟨S, N.set k bs, U ++ [(k, bs)], left - 1, left - 1 == 0, written + 1⟩) 5 (.int .i64 ((written : Int) + 1)) rfl rfl rfl rfl
      have acc6 := acc5.setCell (p := ⟨p, 5, none⟩) (.inr hFp) (.int .i64 ((written : Int) + 1))
      have d5 : W5.cell? ⟨p, 5, none⟩ = some (.int .i64 written) := x5.box.cell 5
      have f5 := x5.box.frozen 5
      replace x6 := Lib.hid (Post.close x6 acc6)
      clear x5 acc5 acc6
      go_wp2_with fail
      go_ret
      refine ⟨rfl, ?_⟩
      have e1 : decide (left = 1) = (left - 1 == 0) := by rw [Bool.eq_iff_iff]; simp; omega
      first | rw [if_pos h5, e1] | rw [e1]
      exact x6.out
    · have q5 : decide (0 < left) = false := decide_eq_false h5
      go_enter Try.func17, Try.ntmps17
      rw [q3]
      go_wp2_with fail
      refine kL.out.mono ?_; rintro e w1 ⟨rfl, rfl⟩
      go_wp2_with fail
      have x2 := h.open
      have acc := Upd.refl F w1
      rw [q3] at hv
      have hv1 : VB _ (.slice A 64 cv) bs := View.upd hv acc (q3 ▸ hvF)
      have kC := Lib.hid (cloneB _ _ _ hv1 (by omega))
      clear c3 c4 f3 f4 hv hv1 kL
      refine kC.out.mono ?_; rintro e w2 ⟨v2, rfl, ho, hb⟩
      obtain ⟨g2, c2, rfl, _⟩ := own_some ho (show 0 < bs.length by omega)
      have acc2 : Upd F w1 w2 := acc.trans (T := fun _ => False) (Upd.of_below hb) (fun _ _ t => t.elim)
      have dt : Dt w2 (op F w1) (.slice (some ⟨g2, 0, none⟩) bs.length c2) bs := ⟨g2, c2, rfl, .inr (Nat.le_trans acc.size (own_lt ho rfl).1), own_mono ho (by omega)⟩
      have x3 := x2.below hb
      have x4 := x3.setNow k (by show k < N.length; omega) dt
      have dt4 := dt.keep (Upd.setCell (p := ⟨g, k, none⟩) (Upd.refl _ _) (.inr (notB_own x3.now rfl (by decide))) (.slice (some ⟨g2, 0, none⟩) bs.length c2) : KeepB w2 (w2.setCell ⟨g, k, none⟩ (.slice (some ⟨g2, 0, none⟩) bs.length c2)))
      have acc4 := acc2.setCell (p := ⟨g, k, none⟩) (.inr (h.fn g rfl)) (.slice (some ⟨g2, 0, none⟩) bs.length c2)
      have b1 := x3.box.cell 1
      obtain ⟨u1, b2⟩ : ∃ u, w2.cell? ⟨g, k, none⟩ = some u := ⟨_, own_cell x3.now k (by show k < N.length * 1; omega)⟩
      have b3 := own_free x3.now k
      have hFp := h.fp
      simp only at x4
      rw [q3] at x4 acc4 dt4 ⊢
      clear kC ho hb acc acc2 dt x2 x3 h hk
      replace x4 := Lib.hid x4
      replace acc4 := Lib.hid acc4
      replace dt4 := Lib.hid dt4
      go_upto_region 8 with fail
      clear b1 b2 b3
      generalize w2.setCell ⟨g, k, none⟩ (.slice (some ⟨g2, 0, none⟩) 64 c2) = W4 at *
      replace x4 := x4.out
      have huns := x4.uns
      have hbox := x4.box
      obtain ⟨Au, cu, rfl, _⟩ := own_shape huns
      simp only at huns hbox ⊢
      have hne := own_ne_whole huns hbox (by decide)
      have b1 := hbox.cell 2
      have hxx := Lib.hid (x4.below ((Below.refl W4.heap.size W4).alloc (Nat.le_refl _) (.cells #[.int .i64 k, .slice (some ⟨g2, 0, none⟩) 64 c2] 79)))
      replace hne := Lib.hid hne
      replace x4 := Lib.hid x4
      replace hbox := Lib.hid hbox
      go_upto_region 9 with (at_builtin; refine wpList_append_view _ rfl (.tmp 60) (.tmp 64) _ rfl 0 79 i0 (.agg #[.int .i64 0, .slice none 0 0]) 2 32 Try.underlying73 hi0 hz0 hz1 hz2 rfl (by decide) (.slice Au U.length cu) U.length _ rfl (huns.alloc _) (.slice (some ⟨W4.heap.size, 0, none⟩) 1 1) 1 [.int .i64 k, .slice (some ⟨g2, 0, none⟩) 64 c2] rfl (View.boxAt _ _ _ _ rfl rfl) (by intro u hu; simp only [List.mem_cons, List.not_mem_nil, or_false] at hu; rcases hu with rfl | rfl <;> rfl) (by omega) (by simp only [maxLen]; omega) (by omega) ?_; intro v5 w5 hown5 hg5 hat5; obtain ⟨A5, c5, rfl, _, _, _⟩ := own_shape hown5; have b5 := (hbox.out.alloc _).grown hg5 hne.out; have b5c := b5.cell 2; have b5f := b5.frozen 2)
      have x5 := hxx.out.addUns (hd := .slice (some ⟨g2, 0, none⟩) 64 c2) (i := k) hg5 hown5 (fun b e => by
        rcases hat5 with e2 | e2
        · exact x4.out.fu b (by rw [← e2]; exact e)
        · rw [e2] at e
          injection e with e
          have := acc4.out.size
          have e3 : W4.heap.size + 1 = b := by simpa using e
          exact .inr (by omega)) (dt4.out.upd (S := fun _ => False) (Upd.of_below ((Below.refl W4.heap.size W4).alloc (Nat.le_refl _) _)) (fun _ _ t => t))
      have acc5 : Upd F w1 (w5.setCell ⟨p, 2, none⟩ (.slice A5 (U.length + 1) c5)) := ((acc4.out.alloc _).trans (T := op F w1) (Upd.of_grown hg5 fun b e => x4.out.fu b e) (fun b hb t => by rcases t with t | t; exact t; exact absurd hb (by omega))).setCell (p := ⟨p, 2, none⟩) (.inr hFp) _
      clear hown5 hg5 hat5 hxx b5 b5c b5f hne hbox huns b1 x4 acc4 dt4
      generalize w5.setCell ⟨p, 2, none⟩ (.slice A5 (U.length + 1) c5) = W5 at *
      have q6 : IntKind.i64.wrap ((written : Int) + 1) = (written : Int) + 1 := IntWalk.i64_in _ (by omega)
      have x6 := x5.setBox (D' := ⟨S, N.set k bs, U ++ [(k, bs)], left, false, written + 1⟩) 5 (.int .i64 ((written : Int) + 1)) rfl rfl rfl rfl
      have acc6 := acc5.setCell (p := ⟨p, 5, none⟩) (.inr hFp) (.int .i64 ((written : Int) + 1))
      have d5 : W5.cell? ⟨p, 5, none⟩ = some (.int .i64 written) := x5.box.cell 5
      have f5 := x5.box.frozen 5
      replace x6 := Lib.hid (Post.close x6 acc6)
      clear x5 acc5 acc6
      go_wp2_with fail
      go_ret
      refine ⟨rfl, ?_⟩
      have e1 : decide (left = 1) = false := decide_eq_false (by omega)
      first | rw [if_neg (by omega), e1] | rw [e1]
      exact x6.out
end Go.Proofs.Ytbfcaapompkjhaa
