/-
  DeadLimit: plain facts on the queue of three messages.
-/
import Derived.Test.YtbckobclicogiaaNd
set_option linter.unusedVariables false
set_option linter.unusedSimpArgs false
namespace Go.Proofs.Ytbckobclicogiaa
open Go.RowKit Go.Proofs.PosteMem

def m1L : Msg := ⟨1, -1, 0, false, ⟨#[]⟩, ⟨#[]⟩⟩
def m3L : Msg := ⟨3, 1, 0, false, ⟨#[]⟩, ⟨#[]⟩⟩
def m2L (n : Int) (c : Bool) : Msg := ⟨2, 0, n, c, ⟨#[]⟩, ⟨#[]⟩⟩
def oL (limit n : Int) (c : Bool) : Ob := ⟨⟨#[113]⟩, 2, limit, [], [m1L, m2L n c, m3L], []⟩
def oG (limit : Int) : Ob := ⟨⟨#[113]⟩, 2, limit, [], [m1L, m3L], [m2L limit false]⟩
theorem placeL (limit n : Int) (c : Bool) : idxI (byId 2) (oL limit n c).msgs = (1 : Nat) := rfl
theorem freeL_untried (limit n : Int) : freeR (oL limit n true) 2 false = (oL limit n false, true) := by
  rw [freeR_at (o := oL limit n true) (k := 1) (show 1 < 3 by decide) (placeL limit n true)]
  simp [freeAt, oL, m2L, Msg.free]
theorem freeL_kept (limit n : Int) (h0 : 0 ≤ n) (h : n + 1 < limit) (h2 : limit ≤ 20) : freeR (oL limit n true) 2 true = (oL limit (n + 1) false, true) := by
  rw [freeR_at (o := oL limit n true) (k := 1) (show 1 < 3 by decide) (placeL limit n true)]
  have e2 : triedI n = n + 1 := triedI_small h0 (by omega)
  have e3 : ¬ limit ≤ n + 1 := by omega
  simp [freeAt, oL, m2L, triedM, e2, e3]
theorem freeL_gone (limit n : Int) (h0 : 0 ≤ n) (h : n + 1 = limit) (h2 : limit ≤ 20) : freeR (oL limit n true) 2 true = (oG limit, true) := by
  rw [freeR_at (o := oL limit n true) (k := 1) (show 1 < 3 by decide) (placeL limit n true)]
  have e2 : triedI n = limit := by rw [triedI_small h0 (by omega), h]
  simp [freeAt, oL, oG, m2L, triedM, e2]
theorem whereG2 (limit : Int) : whereR (oG limit) 2 = 2 := rfl
theorem whereG3 (limit : Int) : whereR (oG limit) 3 = 1 := rfl
end Go.Proofs.Ytbckobclicogiaa
