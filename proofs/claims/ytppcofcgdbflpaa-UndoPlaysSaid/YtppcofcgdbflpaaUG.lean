import Derived.Test.YtppcofcgdbflpaaUF
import Derived.Test.YtppcofcgdbflpaaOpenV
namespace Go.Proofs.Ytppcofcgdbflpaa
open Go.RowKit Go.Proofs.PosteMem Go.Proofs.PosteOpen

set_option maxHeartbeats 4000000 in
theorem undoPoints_out (W : World) (A : Option Addr) (n c : Nat) (x : Int) (hn : ¬ ((1 ≤ n ∧ n ≤ 20) ∧ (0 ≤ x ∧ x < n))) :
    Calls Try.prog 7 #[.slice A n c, .int .i64 x] W fun e w' => e = .returned (.bool true) ∧ Below W.heap.size W w' := by
  by_cases h1 : n < 1
  · have q1 : (n : Int) < 1 := by omega
    clear hn
    go_enter Try.func7, Try.ntmps7
    go_wp2_with fail
    refine (alive22 _).mono ?_; rintro e w1 ⟨rfl, hb1⟩
    go_wp2
    go_ret
    exact ⟨rfl, hb1⟩
  have q1 : ¬ (n : Int) < 1 := by omega
  by_cases h2 : 20 < n
  · have q2 : (20 : Int) < n := by omega
    clear hn
    go_enter Try.func7, Try.ntmps7
    go_wp2_with fail
    refine (alive22 _).mono ?_; rintro e w1 ⟨rfl, hb1⟩
    go_wp2
    go_ret
    exact ⟨rfl, hb1⟩
  have q2 : ¬ (20 : Int) < n := by omega
  by_cases h3 : x < 0
  · clear hn
    go_enter Try.func7, Try.ntmps7
    go_wp2_with fail
    refine (alive22 _).mono ?_; rintro e w1 ⟨rfl, hb1⟩
    go_wp2
    go_ret
    exact ⟨rfl, hb1⟩
  have h4 : (n : Int) ≤ x := by omega
  clear hn
  go_enter Try.func7, Try.ntmps7
  go_wp2_with fail
  refine (alive22 _).mono ?_; rintro e w1 ⟨rfl, hb1⟩
  go_wp2
  go_ret
  exact ⟨rfl, hb1⟩

theorem undoPoints_walk (W : World) (A : Option Addr) (n c : Nat) (l : List Int) (r : Rd Try.prog W (.sl 3 (.int .i64)) [.slice A n c] l) (x : Int) (_ : (Lit.int .i64 x).wf = true) :
    Calls Try.prog 7 #[.slice A n c, .int .i64 x] W fun e w' => e = .returned (.bool true) ∧ Below W.heap.size W w' := by
  by_cases h : (1 ≤ n ∧ n ≤ 20) ∧ (0 ≤ x ∧ x < n)
  · have hv := rd_view_flat rfl r
    have hn : n = l.length := by
      obtain ⟨_, _, _, e, _⟩ := hv
      injection e
    rw [← hn] at hv
    have e : l.flatMap (Kd.enc (.int .i64)) = l.map fun q => Value.int .i64 q := by
      clear hv hn r
      induction l with
      | nil => rfl
      | cons a l ih => rw [List.flatMap_cons, List.map_cons, ih]; rfl
    rw [e] at hv
    exact undoPoints_core W A n c l x hv h.1 h.2
  · exact undoPoints_out W A n c x h
end Go.Proofs.Ytppcofcgdbflpaa
