/-
  The walk of the law OrderTells: it returns true.
-/
import Derived.Test.YtppcofcgdbflpaaOL
namespace Go.Proofs.Ytppcofcgdbflpaa
open Go.RowKit Go.Proofs.PosteOrd

theorem kept_of {N : Nat} {W w' : World} (h : Below N W w') : Below N W w' ∧ ∀ b o, b < N → w'.cell? ⟨b, o, none⟩ = W.cell? ⟨b, o, none⟩ := ⟨h, fun b o hb => h.cell (p := ⟨b, o, none⟩) hb⟩
theorem kept_below {N : Nat} {W w1 w2 : World} (hN : N ≤ W.heap.size) (hb : Below w1.heap.size w1 w2) (h : Below N W w1) : Below N W w2 ∧ ∀ b o, b < N → w2.cell? ⟨b, o, none⟩ = W.cell? ⟨b, o, none⟩ :=
  kept_of (h.trans (hb.mono (Nat.le_trans hN h.size)))
theorem below_drewN {N : Nat} {W w1 : World} (n : Nat) (h : Below N W w1) : Below N W (w1.drewN n) := ⟨h.os, h.tape, h.output, h.size, h.block⟩
theorem kept_any {N M : Nat} {W w1 w2 : World} (hb : Below M w1 w2) (hN : N ≤ M) (h : Below N W w1) : Below N W w2 ∧ ∀ b o, b < N → w2.cell? ⟨b, o, none⟩ = W.cell? ⟨b, o, none⟩ :=
  kept_of (h.trans (hb.mono hN))
theorem kept_call {N : Nat} {W w1 w2 : World} (hN : N ≤ W.heap.size) (hb : Below w1.heap.size w1 w2) (h : Below N W w1 ∧ ∀ b o, b < N → w1.cell? ⟨b, o, none⟩ = W.cell? ⟨b, o, none⟩) : Below N W w2 ∧ ∀ b o, b < N → w2.cell? ⟨b, o, none⟩ = W.cell? ⟨b, o, none⟩ :=
  kept_of (h.1.trans (hb.mono (Nat.le_trans hN h.1.size)))
theorem kept_dn {N : Nat} {W w1 : World} (n : Nat) (h : Below N W w1 ∧ ∀ b o, b < N → w1.cell? ⟨b, o, none⟩ = W.cell? ⟨b, o, none⟩) : Below N W (w1.drewN n) ∧ ∀ b o, b < N → (w1.drewN n).cell? ⟨b, o, none⟩ = W.cell? ⟨b, o, none⟩ :=
  kept_of (below_drewN n h.1)
theorem kept_drewN {N : Nat} {W w1 : World} (n : Nat) (h : Below N W w1) : Below N W (w1.drewN n) ∧ ∀ b o, b < N → (w1.drewN n).cell? ⟨b, o, none⟩ = W.cell? ⟨b, o, none⟩ :=
  kept_of ⟨h.os, h.tape, h.output, h.size, h.block⟩

theorem kept_end {w W w1 : World} (h : Below w.heap.size w W) (k : Below W.heap.size W w1 ∧ ∀ b o, b < W.heap.size → w1.cell? ⟨b, o, none⟩ = W.cell? ⟨b, o, none⟩) : Below w.heap.size w w1 :=
  h.trans (k.1.mono h.size)

set_option maxHeartbeats 8000000 in
theorem orderTells_any (a b c : ByteArray) (x y : M) (w : World) (sa : a.size ≤ 140737488351232) (sb : b.size ≤ 140737488351232) (sc : c.size ≤ 140737488351232) :
   Calls Try.prog 6 #[.string a, .string b, .string c, x.val, y.val] w fun e w' => e = .returned (.bool true) ∧ Below w.heap.size w w' := by
  unfold M.val
  by_cases hs : a.size ≤ 100 ∧ b.size ≤ 100 ∧ c.size ≤ 100
  · obtain ⟨h1, h2, h3⟩ := hs
    go_enter Try.func6, Try.ntmps6
    go_wp2_with fail
    refine (alive1 _).mono ?_; rintro e w' ⟨rfl, rfl⟩
    go_wp2_with fail
    obtain ⟨W, hW⟩ : ∃ W, W = (w.alloc (.cells #[.int .i64 x.id, .int .i64 x.pri, .int .i64 x.retry, .bool x.claimed, .string x.corr, .string x.body] 28)).alloc (.cells #[.int .i64 y.id, .int .i64 y.pri, .int .i64 y.retry, .bool y.claimed, .string y.corr, .string y.body] 28) := ⟨_, rfl⟩
    rw [← hW]
    have HB : Below w.heap.size w W := by rw [hW]; go_grown
    have c0 : W.cell? ⟨w.heap.size, 0, none⟩ = some (.int .i64 x.id) := by rw [hW]; go_simp
    have c1 : W.cell? ⟨w.heap.size, 1, none⟩ = some (.int .i64 x.pri) := by rw [hW]; go_simp
    have c2 : W.cell? ⟨w.heap.size, 2, none⟩ = some (.int .i64 x.retry) := by rw [hW]; go_simp
    have c3 : W.cell? ⟨w.heap.size, 3, none⟩ = some (.bool x.claimed) := by rw [hW]; go_simp
    have c4 : W.cell? ⟨w.heap.size, 4, none⟩ = some (.string x.corr) := by rw [hW]; go_simp
    have c5 : W.cell? ⟨w.heap.size, 5, none⟩ = some (.string x.body) := by rw [hW]; go_simp
    have d0 : W.cell? ⟨w.heap.size + 1, 0, none⟩ = some (.int .i64 y.id) := by rw [hW]; go_simp
    have d1 : W.cell? ⟨w.heap.size + 1, 1, none⟩ = some (.int .i64 y.pri) := by rw [hW]; go_simp
    have d2 : W.cell? ⟨w.heap.size + 1, 2, none⟩ = some (.int .i64 y.retry) := by rw [hW]; go_simp
    have d3 : W.cell? ⟨w.heap.size + 1, 3, none⟩ = some (.bool y.claimed) := by rw [hW]; go_simp
    have d4 : W.cell? ⟨w.heap.size + 1, 4, none⟩ = some (.string y.corr) := by rw [hW]; go_simp
    have d5 : W.cell? ⟨w.heap.size + 1, 5, none⟩ = some (.string y.body) := by rw [hW]; go_simp
    have z1 : w.heap.size < W.heap.size := by rw [hW]; simp; omega
    have z2 : w.heap.size + 1 < W.heap.size := by rw [hW]; simp
    clear hW
    have z3 := Nat.le_refl W.heap.size
    go_region_held3 (fun w' => Below W.heap.size W w' ∧ ∀ b o, b < W.heap.size → w'.cell? ⟨b, o, none⟩ = W.cell? ⟨b, o, none⟩) (first | assumption | exact kept_of (Below.refl _ _).drew | exact kept_call (Nat.le_refl _) (by assumption) (by assumption) | exact kept_dn _ (by assumption) | exact kept_any (by assumption) (by first | exact Nat.le_refl _ | assumption | (simp; done) | omega) (by first | assumption | exact Below.refl _ _ | exact below_drewN _ (Below.refl _ _) | exact below_drewN _ (by assumption)) | exact kept_drewN _ (by assumption) | exact kept_drewN _ (Below.refl _ _)) (first | (go_at_call 14; refine (keys_any _ _ _).mono ?_; rintro e w' ⟨rfl, rfl⟩) | (go_at_call 18; refine (refKeys_any _ _ _ (by assumption) (by assumption)).mono ?_; rintro e w' ⟨rfl, n, rfl⟩) | (go_at_call 15; refine (next_any _ _ (by assumption)).mono ?_; rintro e w' ⟨rfl, rfl⟩) | (go_at_call 20; refine (refNext_any _ _ (by assumption)).mono ?_; rintro e w' ⟨rfl, rfl⟩) | (go_at_call 16; refine (in_any _ _ _ _).mono ?_; rintro e w' ⟨rfl, rfl⟩) | (go_at_call 21; refine (refIn_any _ _ _ _ (by assumption) (by assumption) (by assumption)).mono ?_; rintro e w' ⟨rfl, n, rfl⟩) | (go_at_call 17; refine (msgs_any x y _).mono ?_; rintro e w' ⟨rfl, hb⟩) | (go_at_call 19; refine (refMsgs_any x y _).mono ?_; rintro e w' ⟨rfl, hb⟩))
    go_wp2
    go_ret
    exact ⟨rfl, by first | exact kept_end HB (by assumption) | exact below_drewN _ (kept_end HB (by assumption))⟩
  · have hs' : ¬ ((a.size : Int) ≤ 100 ∧ (b.size : Int) ≤ 100 ∧ (c.size : Int) ≤ 100) := by omega
    go_enter Try.func6, Try.ntmps6
    go_wp2_with fail
    refine (alive1 _).mono ?_; rintro e w' ⟨rfl, rfl⟩
    go_wp2_with fail
    all_goals first | (go_ret; exact ⟨rfl, by go_grown⟩) | (exfalso; omega)
end Go.Proofs.Ytppcofcgdbflpaa

