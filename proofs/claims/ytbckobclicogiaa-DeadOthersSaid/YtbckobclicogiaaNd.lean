/-
  dead.Free by one contract; postelaw16.alive.
-/
import Derived.Test.YtbckobclicogiaaNa
import Derived.Test.YtbckobclicogiaaNb
set_option linter.unusedVariables false
set_option linter.unusedSimpArgs false
namespace Go.Proofs.Ytbckobclicogiaa
open Go.RowKit Go.Proofs.PosteMem

theorem free_any (w : World) (o : Ob) (r m d : Value) (id : Int) (tried : Bool) (h : VOb w o r m d) (hs : o.small) :
    Calls Try.prog 13 #[.agg (o.cells r m d), .int .i64 id, .bool tried] w (FreePost w (freeR o id tried)) := by
  rcases place o.msgs id with hi | ⟨k, hk, hi⟩
  · rw [freeR_none hi]
    exact free_none w o r m d id tried h hs hi
  · rw [freeR_at hk hi]
    unfold freeAt
    cases hc : o.msgs[k].claimed with
    | false =>
      rw [if_pos rfl]
      exact free_claimed w o r m d id tried h hs k hk hi hc
    | true =>
      rw [if_neg (by decide)]
      cases tried with
      | false =>
        rw [if_pos rfl]
        exact free_untried w o r m d id h hs k hk hi hc
      | true =>
        rw [if_neg (by decide)]
        by_cases hg : o.limit ≤ triedI o.msgs[k].retry
        · rw [if_pos hg]
          exact free_gone w o r m d id h hs k hk hi hc hg
        · rw [if_neg hg]
          exact free_kept w o r m d id h hs k hk hi hc hg

def oA : Ob := ⟨⟨#[]⟩, 0, 1, [], [⟨4, 0, 0, true, ⟨#[]⟩, ⟨#[]⟩⟩], []⟩
def oB : Ob := ⟨⟨#[]⟩, 0, 1, [], [], [⟨4, 0, 1, false, ⟨#[]⟩, ⟨#[]⟩⟩]⟩
def oZ : Ob := ⟨⟨#[]⟩, 0, 0, [], [], []⟩
theorem triedI_small {r : Int} (h0 : 0 ≤ r) (h : r < 1000) : triedI r = r + 1 := by
  unfold triedI wrap64
  rw [if_pos h]
  omega
theorem freeA : freeR oA 4 true = (oB, true) := by
  have e : idxI (byId 4) oA.msgs = (0 : Nat) := by decide
  rw [freeR_at (k := 0) (by decide) e]
  have e2 : triedI 0 = 1 := triedI_small (by decide) (by decide)
  simp [freeAt, oA, oB, triedM, e2]
theorem whereZ : whereR oZ 1 = 0 := by decide
theorem whereB : whereR oB 4 = 2 := by decide

set_option maxRecDepth 100000 in
set_option maxHeartbeats 8000000 in
theorem alive16 (w : World) : Calls Try.prog 12 #[] w fun e w' => e = .returned (.bool true) ∧ Below w.heap.size w w' := by
  have hF := Lib.hid freeA
  have hZ := Lib.hid whereZ
  have hB := Lib.hid whereB
  have sA : oA.small := by unfold Ob.small; decide
  have sB : oB.small := by unfold Ob.small; decide
  have sZ : oZ.small := by unfold Ob.small; decide
  go_enter Try.func12, Try.ntmps12
  go_wp2_with fail
  refine (free_any _ oA (.slice none 0 0) (.slice (some ⟨w.heap.size, 0, none⟩) 1 1) (.slice none 0 0) 4 true ⟨View.nil _ _, View.boxAt (sz := 6) w (Msg.cells ⟨4, 0, 0, true, ⟨#[]⟩, ⟨#[]⟩⟩) 34 _ rfl rfl, View.nil _ _⟩ sA).mono ?_
  rintro e w1 ⟨r1, m1, d1, rfl, ho, hb1⟩
  rw [hF.out] at ho ⊢
  have hb0 := below_then ((Below.refl w.heap.size w).alloc (Nat.le_refl _) _) hb1
  have hl := hb0.size
  obtain ⟨A1, n1, rfl, _, _, _⟩ := own_shape ho.rows
  obtain ⟨A2, n2, rfl, _, _, _⟩ := own_shape ho.msgs
  obtain ⟨A3, n3, rfl, _, _, _⟩ := own_shape ho.dead
  have ho1 := Lib.hid ho
  clear ho
  unfold Ob.cells
  simp only [oB, List.length_nil, List.length_cons, Nat.zero_add]
  go_wp2_with fail
  refine (where_any _ oZ (.slice none 0 0) (.slice none 0 0) (.slice none 0 0) 1 ⟨View.nil _ _, View.nil _ _, View.nil _ _⟩ sZ).mono ?_
  rintro e w2 ⟨rfl, hb2⟩
  rw [hZ.out]
  have hx := (Whole.new w1 25 #[.string ⟨#[]⟩, .int .i64 0, .int .i64 1, .slice A1 0 n1, .slice A2 0 n2, .slice A3 1 n3]).below hb2
  have c0 := hx.cell 0
  have c1 := hx.cell 1
  have c2 := hx.cell 2
  have c3 := hx.cell 3
  have c4 := hx.cell 4
  have c5 := hx.cell 5
  have hb3 : Below w.heap.size w w2 := below_then hb0 (below_then ((Below.refl w1.heap.size w1).alloc (Nat.le_refl _) _) hb2)
  have ho2 := (ho1.out.view.below ((Below.refl w1.heap.size w1).alloc (Nat.le_refl _) (.cells #[.string ⟨#[]⟩, .int .i64 0, .int .i64 1, .slice A1 0 n1, .slice A2 0 n2, .slice A3 1 n3] 25))).below hb2
  replace ho2 := Lib.hid ho2
  go_wp2_with fail
  refine (where_any _ oB _ _ _ 4 ho2.out sB).mono ?_
  rintro e w3 ⟨rfl, hb4⟩
  rw [hB.out]
  go_wp2
  go_ret
  exact ⟨rfl, below_then hb3 hb4⟩
end Go.Proofs.Ytbckobclicogiaa
