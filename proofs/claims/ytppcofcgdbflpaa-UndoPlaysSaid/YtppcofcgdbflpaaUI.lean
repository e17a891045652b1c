import Derived.Test.YtppcofcgdbflpaaUH
import Derived.Test.YtppcofcgdbflpaaOK
namespace Go.Proofs.Ytppcofcgdbflpaa
open Go.RowKit Go.Proofs.PosteMem Go.Proofs.PosteOpen

@[reducible] def KEff : Kd := .cons 3 (.int .i64) (.cons 9 .str (.cons 9 .str (.cons 9 .str (.cons 3 (.int .i64) (.cons 3 (.int .i64) (.cons 4 .bool (.cons 28 KMsg .nil)))))))
@[reducible] def KAct : Kd := .cons 3 (.int .i64) (.cons 3 (.int .i64) (.cons 34 (.sl 40 KEff) .nil))
def effOf (x : KEff.T) : Eff :=
  ⟨x.1, x.2.1, x.2.2.1, x.2.2.2.1, x.2.2.2.2.1, x.2.2.2.2.2.1, x.2.2.2.2.2.2.1, x.2.2.2.2.2.2.2.1.1, x.2.2.2.2.2.2.2.1.2.1, x.2.2.2.2.2.2.2.1.2.2.1, x.2.2.2.2.2.2.2.1.2.2.2.1, x.2.2.2.2.2.2.2.1.2.2.2.2.1, x.2.2.2.2.2.2.2.1.2.2.2.2.2.1⟩
theorem enc_eff (x : KEff.T) : KEff.enc x = (effOf x).cells := rfl
theorem enc_effs (l : List KEff.T) : l.flatMap KEff.enc = (l.map effOf).flatMap Eff.cells := by
  induction l with
  | nil => rfl
  | cons a l ih => rw [List.flatMap_cons, List.map_cons, List.flatMap_cons, ih, enc_eff]

theorem act_at (W : World) (A : Option Addr) (n c : Nat) (l : List KAct.T) (r : Rd Try.prog W (.sl 50 KAct) [.slice A n c] l) (i : Nat) (hi : i < n) : ActAt W A i := by
  obtain ⟨css, h1, h2, hv, h4⟩ := rd_view r
  have hn : n = l.length := by
    obtain ⟨_, _, _, e, _⟩ := hv
    injection e
  obtain ⟨b, off, cap, e, _, _, hb, hc⟩ := hv.at_ (by show 0 < l.length * 3; omega)
  injection e with e1 e2 e3
  subst e1
  have hj : i < css.length := by omega
  obtain ⟨c1, d1, q1, q2, ⟨q3, _⟩, c2, d2, q4, q5, ⟨q6, _⟩, c3, d3, q7, q8, q9, q10⟩ := h4 i (by omega) hj
  obtain ⟨A2, k2, rfl, _⟩ := id q9
  have hvw := rd_view_flat rfl q9
  rw [enc_effs] at hvw
  have e : css[i] = [.int .i64 l[i].1, .int .i64 l[i].2.1, .slice A2 (l[i].2.2.1 : List KEff.T).length k2] := by
    rw [q1, q3, q4, q6, q7, show d3 = [] from q10]
    rfl
  have at3 : ∀ j u, j < 3 → css[i][j]? = some u → W.cell? ⟨b, off + (i * 3 + j), none⟩ = some u := fun j u hj3 hu => hc _ _ ((flatten_at 3 css h2 i hj j hj3).trans hu)
  rw [e] at at3
  exact ⟨b, off, rfl, hb, _, _, A2, _, k2, (l[i].2.2.1 : List KEff.T).map effOf, at3 0 _ (by decide) rfl, at3 1 _ (by decide) rfl, at3 2 _ (by decide) rfl, by simp, hvw⟩

set_option maxHeartbeats 4000000 in
theorem undoPlays_walk (W : World) (A : Option Addr) (n c : Nat) (l : List KAct.T) (r : Rd Try.prog W (.sl 50 KAct) [.slice A n c] l) :
    Calls Try.prog 8 #[.slice A n c] W fun e w' => e = .returned (.bool true) ∧ Below W.heap.size W w' := by
  by_cases h : n ≤ 80
  · exact undoPlays_core W A n c h fun i hi => act_at W A n c l r i hi
  · have q1 : (80 : Int) < n := by omega
    clear r h
    go_enter Try.func8, Try.ntmps8
    go_wp2_with fail
    refine (alive22 _).mono ?_; rintro e w1 ⟨rfl, hb1⟩
    go_wp2
    go_ret
    exact ⟨rfl, hb1⟩
end Go.Proofs.Ytppcofcgdbflpaa
