/-
  SessionChecks: the program's answers are the reference's.
-/
import Derived.Test.YtbckobclicogiaaSk
import Derived.Test.YtbckobclicogiaaSl4
import Derived.Test.YtbckobclicogiaaOpenV
set_option linter.unusedVariables false
set_option linter.unusedSimpArgs false
namespace Go.Proofs.Ytbckobclicogiaa
open Go.RowKit Go.Proofs.PosteMem Go.Proofs.PosteOpen

def qA : Req := ⟨0, ⟨#[]⟩, ⟨#[]⟩, ⟨#[]⟩, 0, 0⟩
def qB : Req := ⟨1, ⟨#[]⟩, ⟨#[]⟩, ⟨#[]⟩, 0, 0⟩
def qG : Req := ⟨7, ⟨#[116]⟩, ⟨#[97]⟩, ⟨#[]⟩, 0, 0⟩
theorem rightA : rightR qA = 1 := by
  unfold rightR
  rw [if_pos (.inl (by decide))]
theorem rightB : rightR qB = 0 := by
  rw [rightR_in (by decide) (by decide) (by simp [qB, namedR, E0])]
  decide
theorem rightG : rightR qG = 0 := by
  rw [rightR_in (by decide) (by decide) (by simp [qG, namedR, E0])]
  decide
theorem wantsG : (wantsR qG).length = 3 := by
  unfold wantsR
  rw [rightG, if_pos rfl, wantsOf_len]
  decide

set_option maxHeartbeats 4000000 in
theorem alive24 (w : World) : Calls Try.prog 19 #[] w fun e w' => e = .returned (.bool true) ∧ Below w.heap.size w w' := by
  have hA := Lib.hid rightA
  have hB := Lib.hid rightB
  have hG := Lib.hid wantsG
  go_enter Try.func19, Try.ntmps19
  go_wp2_with fail
  refine (right_any _ qA).mono ?_; rintro e w1 ⟨rfl, hb1⟩
  rw [hA.out]
  go_wp2_with fail
  refine (right_any _ qB).mono ?_; rintro e w2 ⟨rfl, hb2⟩
  rw [hB.out]
  go_wp2_with fail
  refine (num24 _ _).mono ?_; rintro e w3 ⟨rfl, rfl⟩
  go_wp2_with fail
  refine (num24 _ _).mono ?_; rintro e w3 ⟨rfl, rfl⟩
  go_wp2_with fail
  refine (swants_any _ qG).mono ?_; rintro e w4 ⟨v4, rfl, ho, hb4⟩
  unfold OWants at ho
  rw [hG.out] at ho
  obtain ⟨A4, c4, rfl, _, _, _⟩ := own_shape ho
  go_wp2
  go_ret
  exact ⟨rfl, below_then hb1 (below_then hb2 hb4)⟩

theorem wantsR_len (q : Req) : (wantsR q).length ≤ 1000000 := by
  unfold wantsR
  split
  · rw [wantsOf_len]
    unfold modesOf
    repeat (first | (split; · decide) | split)
    all_goals decide
  · decide

set_option maxRecDepth 100000 in
set_option maxHeartbeats 8000000 in
theorem refWants_any (w : World) (q : Req) : Calls Try.prog 25 #[q.val] w fun e w' => ∃ v', e = .returned v' ∧ OWants w' w.heap.size v' (wantsR q) ∧ Below w.heap.size w w' := by
  have hR := Lib.hid (fun w => refRight_any w q)
  unfold wantsR
  have h15 : rightR q = 0 → q.kind ≤ 14 := fun h => by
    rcases Int.lt_or_le 14 q.kind with h1 | h1
    · unfold rightR at h
      rw [if_pos (.inr (.inl h1))] at h
      cases h
    · exact h1
  generalize hr : rightR q = r at hR h15 ⊢
  have hbx := Whole.new w 38 #[.int .i64 q.kind, .string q.name, .string q.key, .string q.value, .int .i64 q.n, .int .i64 q.pri]
  obtain ⟨kind, name, key, value, n, pri⟩ := q
  simp only at hbx hR h15 ⊢
  unfold Req.val at hR ⊢
  obtain ⟨i0, hi0, hz0, hz1, hz2⟩ := info_parts infoWant
  by_cases h0 : r = 0
  case neg =>
    rw [if_neg h0]
    go_enter Try.func25, Try.ntmps25
    go_wp2_with fail
    refine (hR.out _).mono ?_; rintro e w1 ⟨rfl, hb1⟩
    go_wp2
    go_ret
    exact ⟨_, rfl, World.ownsRow_nil _ _ _ _, below_then ((Below.refl w.heap.size w).alloc (Nat.le_refl _) _) hb1⟩
  subst h0
  rw [if_pos rfl]
  by_cases hlow : kind < 7
  · have e9 : modesOf kind = [] := by
      unfold modesOf
      rw [if_neg (by omega), if_neg (by omega), if_neg (by omega), if_neg (by omega), if_neg (by omega)]
    rw [e9]
    go_enter Try.func25, Try.ntmps25
    go_wp2_with fail
    refine (hR.out _).mono ?_; rintro e w1 ⟨rfl, hb1⟩
    have hw1 := hbx.below hb1
    have b0 := hw1.cell 0
    go_wp2
    go_ret
    exact ⟨_, rfl, World.ownsRow_nil _ _ _ _, below_then ((Below.refl w.heap.size w).alloc (Nat.le_refl _) _) hb1⟩
  have h14 := h15 rfl
  clear h15
  have hk : (kind = 7 ∨ kind = 8 ∨ kind = 9) ∨ kind = 10 ∨ kind = 11 ∨ kind = 12 ∨ kind = 13 ∨ kind = 14 := by omega
  rcases hk with hk | hk
  · obtain ⟨a, b, c, hm, e7⟩ : ∃ a b c : Int, modesOf kind = [a, b, c] ∧ ((kind = 7 ∧ a = 1 ∧ b = 1 ∧ c = 3) ∨ ((kind = 8 ∨ kind = 9) ∧ a = 2 ∧ b = 2 ∧ c = 5)) := by
      rcases hk with rfl | rfl | rfl
      · exact ⟨1, 1, 3, rfl, .inl ⟨rfl, rfl, rfl, rfl⟩⟩
      · exact ⟨2, 2, 5, rfl, .inr ⟨.inl rfl, rfl, rfl, rfl⟩⟩
      · exact ⟨2, 2, 5, rfl, .inr ⟨.inr rfl, rfl, rfl, rfl⟩⟩
    rw [hm]
    have e9 : wantsOf ⟨kind, name, key, value, n, pri⟩ [a, b, c] = [⟨0, ⟨#[]⟩, ⟨#[]⟩, a⟩, ⟨1, name, ⟨#[]⟩, b⟩] ++ [⟨2, name, key, c⟩] := rfl
    rw [e9]
    clear e9 hm
    rcases hk with rfl | rfl | rfl
    all_goals
      rcases e7 with ⟨e6, rfl, rfl, rfl⟩ | ⟨e6, rfl, rfl, rfl⟩
      all_goals try (exfalso; omega)
    all_goals
      clear e6
      go_enter Try.func25, Try.ntmps25
      go_wp2_with fail
      refine (hR.out _).mono ?_; rintro e w1 ⟨rfl, hb1⟩
      have hw1 := hbx.below hb1
      have hb0 := below_then ((Below.refl w.heap.size w).alloc (Nat.le_refl _) _) hb1
      have b0 := hw1.cell 0
      have b1 := hw1.cell 1
      have b2 := hw1.cell 2
      have hlt := hw1.lt
      have hbs := hb0.size
      go_wp2_with (at_builtin; refine wpList_append_view _ rfl (.tmp 39) (.tmp 47) _ rfl w.heap.size 50 i0 zWant 4 48 Try.underlying44 hi0 hz0 hz1 hz2 rfl (by decide) (.slice (some ⟨w1.heap.size, 0, none⟩) 2 2) 2 [.int .i64 0, .string ⟨#[]⟩, .string ⟨#[]⟩, .int .i64 _, .int .i64 1, .string name, .string ⟨#[]⟩, .int .i64 _] rfl ((own_lit rfl hbs rfl (by decide)).alloc _) (.slice (some ⟨w1.heap.size + 1, 0, none⟩) 1 1) 1 [.int .i64 2, .string name, .string key, .int .i64 _] rfl (View.boxAt _ _ _ _ rfl (by simp)) (by intro u hu; simp only [List.mem_cons, List.not_mem_nil, or_false] at hu; rcases hu with rfl | rfl | rfl | rfl <;> rfl) (by omega) (by simp only [maxLen]; omega) (by simp; omega) ?_; intro v3 w3 hown hg hat)
      go_ret
      have hb2 : Below w1.heap.size w1 w3 := (((Below.refl w1.heap.size w1).alloc (Nat.le_refl _) _).alloc (by simp) _).grown hg (by simp; omega) (fun k hk => by simp only [Value.ownBlock, Option.some.injEq] at hk; omega)
      exact ⟨_, rfl, hown, below_then hb0 hb2⟩
  · have h2 : ∃ a b : Int, modesOf kind = [a, b] ∧ ((kind = 10 ∧ a = 1 ∧ b = 3) ∨ ((kind = 11 ∨ kind = 12 ∨ kind = 13) ∧ a = 2 ∧ b = 2) ∨ (kind = 14 ∧ a = 1 ∧ b = 1)) := by
      rcases hk with rfl | rfl | rfl | rfl | rfl
      · exact ⟨1, 3, rfl, .inl ⟨rfl, rfl, rfl⟩⟩
      · exact ⟨2, 2, rfl, .inr (.inl ⟨.inl rfl, rfl, rfl⟩)⟩
      · exact ⟨2, 2, rfl, .inr (.inl ⟨.inr (.inl rfl), rfl, rfl⟩)⟩
      · exact ⟨2, 2, rfl, .inr (.inl ⟨.inr (.inr rfl), rfl, rfl⟩)⟩
      · exact ⟨1, 1, rfl, .inr (.inr ⟨rfl, rfl, rfl⟩)⟩
    obtain ⟨a, b, hm, e7⟩ := h2
    rw [hm]
    have e9 : wantsOf ⟨kind, name, key, value, n, pri⟩ [a, b] = [⟨0, ⟨#[]⟩, ⟨#[]⟩, a⟩, ⟨1, name, ⟨#[]⟩, b⟩] := rfl
    rw [e9]
    clear e9 hm
    rcases hk with rfl | rfl | rfl | rfl | rfl
    all_goals
      rcases e7 with ⟨e6, rfl, rfl⟩ | ⟨e6, rfl, rfl⟩ | ⟨e6, rfl, rfl⟩
      all_goals try (exfalso; omega)
    all_goals
      clear e6
      go_enter Try.func25, Try.ntmps25
      go_wp2_with fail
      refine (hR.out _).mono ?_; rintro e w1 ⟨rfl, hb1⟩
      have hw1 := hbx.below hb1
      have hb0 := below_then ((Below.refl w.heap.size w).alloc (Nat.le_refl _) _) hb1
      have b0 := hw1.cell 0
      have b1 := hw1.cell 1
      have b2 := hw1.cell 2
      have hlt := hw1.lt
      have hbs := hb0.size
      go_wp2
      go_ret
      exact ⟨_, rfl, own_lit rfl hbs rfl (by decide), below_then hb0 ((Below.refl w1.heap.size w1).alloc (Nat.le_refl _) _)⟩
end Go.Proofs.Ytbckobclicogiaa
