/-
  The reference's disk in memory: its box, its two rows, its sectors' bytes; what each store leaves of it.
-/
import Derived.Test.YtbfcaapompkjhaaDj
set_option linter.unusedVariables false
set_option linter.unusedSimpArgs false
namespace Go.Proofs.Ytbfcaapompkjhaa
open Go.RowKit Go.Proofs.PosteMem

structure Rk where
  sure : List (List Int)
  uns : List (Nat × List Int)
  left : Int
  ends : Bool
  count : Nat
theorem infoRw : (Try.prog.info? 82).map (fun i => (i.zero, i.size, i.bytes)) = some (some (.agg #[.int .i64 0, .slice none 0 0]), 2, 32) := by kernel_rfl

structure RAt (W : World) (F : Nat → Prop) (p : Nat) (vs vu : Value) (hs : List Value) (hu : List (Nat × Value)) (D : Rk) : Prop where
  box : Whole W p 44 #[vs, vu, .int .i64 D.left, .bool D.ends, .int .i64 D.count]
  sure : W.ownsRow 0 27 1 vs D.sure.length hs
  uns : W.ownsRow 0 82 2 vu D.uns.length (hu.flatMap wc)
  hsure : Hs W F hs D.sure
  huns : Hs W F (hu.map (·.2)) (D.uns.map (·.2))
  hat : hu.map (·.1) = D.uns.map (·.1)
  fp : F p
  fs : ∀ b, vs.ownBlock = some b → F b
  fu : ∀ b, vu.ownBlock = some b → F b
section
variable {W W' : World} {F F' : Nat → Prop} {p : Nat} {vs vu : Value} {hs : List Value} {hu : List (Nat × Value)} {D : Rk}
theorem RAt.upd {S : Nat → Prop} (h : RAt W F p vs vu hs hu D) (k : Upd S W W') (hS : ∀ b, F b → ¬ S b) : RAt W' F p vs vu hs hu D :=
  ⟨h.box.upd k (hS p h.fp), own_upd h.sure k (fun b e => hS b (h.fs b e)), own_upd h.uns k (fun b e => hS b (h.fu b e)), h.hsure.upd k hS, h.huns.upd k hS, h.hat, h.fp, h.fs, h.fu⟩
theorem RAt.below (h : RAt W F p vs vu hs hu D) (k : Below W.heap.size W W') : RAt W' F p vs vu hs hu D := h.upd (S := fun _ => False) (Upd.of_below k) (fun _ _ t => t)
theorem RAt.mono (h : RAt W F p vs vu hs hu D) (k : ∀ b, b < W.heap.size → F b → F' b) : RAt W F' p vs vu hs hu D :=
  ⟨h.box, h.sure, h.uns, h.hsure.mono k, h.huns.mono k, h.hat, k p h.box.lt h.fp, fun b e => k b (own_lt h.sure e).2 (h.fs b e), fun b e => k b (own_lt h.uns e).2 (h.fu b e)⟩
theorem RAt.setBox (h : RAt W F p vs vu hs hu D) (k : Nat) (u : Value) {D' : Rk} (h1 : D'.sure = D.sure) (h3 : D'.uns = D.uns)
    (hb : (#[vs, vu, Value.int .i64 D.left, .bool D.ends, .int .i64 D.count] : Array Value).setIfInBounds k u = #[vs, vu, .int .i64 D'.left, .bool D'.ends, .int .i64 D'.count]) :
    RAt (W.setCell ⟨p, k, none⟩ u) F p vs vu hs hu D' := by
  have kb : KeepB W (W.setCell ⟨p, k, none⟩ u) := Upd.setCell (Upd.refl _ _) (.inr (notB_whole h.box (by decide))) u
  have hx := h.box.set k u
  rw [hb] at hx
  refine ⟨hx, ?_, ?_, ?_, ?_, by rw [h3]; exact h.hat, h.fp, h.fs, h.fu⟩
  · rw [h1]; exact own_setCell h.sure (own_ne_whole h.sure h.box (by decide)) u
  · rw [h3]; exact own_setCell h.uns (own_ne_whole h.uns h.box (by decide)) u
  · rw [h1]; exact h.hsure.keep kb
  · rw [h3]; exact h.huns.keep kb
theorem RAt.setSure {g c : Nat} {n : Nat} (h : RAt W F p (.slice (some ⟨g, 0, none⟩) n c) vu hs hu D) (i : Nat) (hi : i < D.sure.length) {v : Value} {b : List Int} (hd : Dt W F v b) :
    RAt (W.setCell ⟨g, i, none⟩ v) F p (.slice (some ⟨g, 0, none⟩) n c) vu (hs.set i v) hu { D with sure := D.sure.set i b } := by
  have hg : NotB W g := notB_own h.sure rfl (by decide)
  have kb : KeepB W (W.setCell ⟨g, i, none⟩ v) := Upd.setCell (Upd.refl _ _) (.inr hg) v
  have hn0 : n = D.sure.length := by
    rcases h.sure.2 with ⟨e, _⟩ | ⟨g', cap, cur, e, _⟩
    · cases e
    · injection e
  subst hn0
  refine ⟨h.box.other ?_ v, ?_, own_setCell h.uns ?_ v, (h.hsure.keep kb).set i (hd.keep kb), h.huns.keep kb, h.hat, h.fp, h.fs, h.fu⟩
  · intro e; exact own_ne_whole h.sure h.box (by decide) (by rw [e]; rfl)
  · rw [List.length_set]; exact own_set h.sure i (by omega) v
  · intro e; exact own_ne_own h.uns h.sure (by decide) _ e rfl
theorem RAt.addSure (h : RAt W F p vs vu hs hu D) {v hd : Value} {b : List Int} (hg : W.grownBy W' vs.ownBlock) (ho : W'.ownsRow 0 27 1 v (D.sure.length + 1) (hs ++ [hd])) (hv : ∀ b, v.ownBlock = some b → F b) (hdt : Dt W F hd b) :
    RAt (W'.setCell ⟨p, 0, none⟩ v) F p v vu (hs ++ [hd]) hu { D with sure := D.sure ++ [b] } := by
  have k1 : KeepB W W' := KeepB.of_upd (S := fun k => vs.ownBlock = some k) (Upd.of_grown hg fun k e => e) (fun k e => notB_own h.sure e (by decide))
  have hb : Whole W' p 44 _ := h.box.grown hg (own_ne_whole h.sure h.box (by decide))
  have k2 : KeepB W' (W'.setCell ⟨p, 0, none⟩ v) := Upd.setCell (Upd.refl _ _) (.inr (notB_whole hb (by decide))) _
  have kb := k1.trans k2
  have hu' := own_grown h.uns hg (fun b e e2 => own_ne_own h.uns h.sure (by decide) b e e2)
  refine ⟨hb.set 0 v, ?_, own_setCell hu' (own_ne_whole hu' hb (by decide)) v, (h.hsure.keep kb).snoc (hdt.keep kb), h.huns.keep kb, h.hat, h.fp, hv, h.fu⟩
  rw [List.length_append, List.length_singleton]
  exact own_setCell ho (own_ne_whole ho hb (by decide)) v
theorem RAt.noUns (h : RAt W F p vs vu hs hu D) : RAt (W.setCell ⟨p, 1, none⟩ (.slice none 0 0)) F p vs (.slice none 0 0) hs [] { D with uns := [] } := by
  have kb : KeepB W (W.setCell ⟨p, 1, none⟩ (.slice none 0 0)) := Upd.setCell (Upd.refl _ _) (.inr (notB_whole h.box (by decide))) _
  exact ⟨h.box.set 1 _, own_setCell h.sure (own_ne_whole h.sure h.box (by decide)) _, World.ownsRow_nil _ _ _ _, h.hsure.keep kb, Hs.nil, rfl, h.fp, h.fs, fun b e => by cases e⟩
theorem RAt.addUns (h : RAt W F p vs vu hs hu D) {v hd : Value} {i : Nat} {b : List Int} (hg : W.grownBy W' vu.ownBlock) (ho : W'.ownsRow 0 82 2 v (D.uns.length + 1) (hu.flatMap wc ++ wc (i, hd))) (hv : ∀ b, v.ownBlock = some b → F b) (hdt : Dt W F hd b) :
    RAt (W'.setCell ⟨p, 1, none⟩ v) F p vs v hs (hu ++ [(i, hd)]) { D with uns := D.uns ++ [(i, b)] } := by
  have k1 : KeepB W W' := KeepB.of_upd (S := fun k => vu.ownBlock = some k) (Upd.of_grown hg fun k e => e) (fun k e => notB_own h.uns e (by decide))
  have hb : Whole W' p 44 _ := h.box.grown hg (own_ne_whole h.uns h.box (by decide))
  have k2 : KeepB W' (W'.setCell ⟨p, 1, none⟩ v) := Upd.setCell (Upd.refl _ _) (.inr (notB_whole hb (by decide))) _
  have kb := k1.trans k2
  have hs' := own_grown h.sure hg (fun b e e2 => own_ne_own h.sure h.uns (by decide) b e e2)
  refine ⟨hb.set 1 v, own_setCell hs' (own_ne_whole hs' hb (by decide)) v, ?_, h.hsure.keep kb, ?_, ?_, h.fp, h.fs, hv⟩
  · rw [List.length_append, List.length_singleton, List.flatMap_append]
    simpa using own_setCell ho (own_ne_whole ho hb (by decide)) v
  · rw [List.map_append, List.map_append]
    exact (h.huns.keep kb).snoc (hdt.keep kb)
  · rw [List.map_append, List.map_append, h.hat]
    rfl
end

def RefAt (W : World) (F : Nat → Prop) (p : Nat) (D : Rk) : Prop := ∃ vs vu hs hu, RAt W F p vs vu hs hu D
theorem RefAt.upd {W W' : World} {F S : Nat → Prop} {p : Nat} {D : Rk} (h : RefAt W F p D) (k : Upd S W W') (hS : ∀ b, F b → ¬ S b) : RefAt W' F p D := by
  obtain ⟨vs, vu, hs, hu, h⟩ := h
  exact ⟨vs, vu, hs, hu, h.upd k hS⟩
theorem RefAt.below {W W' : World} {F : Nat → Prop} {p : Nat} {D : Rk} (h : RefAt W F p D) (k : Below W.heap.size W W') : RefAt W' F p D := h.upd (S := fun _ => False) (Upd.of_below k) (fun _ _ t => t)
theorem RefAt.mono {W : World} {F F' : Nat → Prop} {p : Nat} {D : Rk} (h : RefAt W F p D) (k : ∀ b, b < W.heap.size → F b → F' b) : RefAt W F' p D := by
  obtain ⟨vs, vu, hs, hu, h⟩ := h
  exact ⟨vs, vu, hs, hu, h.mono k⟩
theorem RAt.open {W : World} {F : Nat → Prop} {p : Nat} {vs vu : Value} {hs : List Value} {hu : List (Nat × Value)} {D : Rk} (h : RAt W F p vs vu hs hu D) : RAt W (op F W) p vs vu hs hu D := h.mono fun b _ hb => .inl hb
def RPost (w : World) (F : Nat → Prop) (p : Nat) (D : Rk) (w' : World) : Prop := RefAt w' (fr F w w') p D ∧ Upd F w w'
theorem RefAt.fr_self {w : World} {F : Nat → Prop} {p : Nat} {D : Rk} (h : RefAt w F p D) : RPost w F p D w := ⟨h.mono fun b hb hF => ⟨.inl hF, hb⟩, Upd.refl _ _⟩
theorem RPost.close {w W : World} {F : Nat → Prop} {p : Nat} {vs vu : Value} {hs : List Value} {hu : List (Nat × Value)} {D : Rk} (h : RAt W (op F w) p vs vu hs hu D) (k : Upd F w W) : RPost w F p D W := ⟨⟨_, _, _, _, h.mono fun b hb hF => ⟨hF, hb⟩⟩, k⟩

/-- What holds of every disk of the reference. -/
structure Rk.ok (D : Rk) : Prop where
  max : D.sure.length ≤ 4096
  uns : ∀ x ∈ D.uns, x.1 < D.sure.length
  low : 0 ≤ D.left
  high : D.left ≤ 1073741824
  sbytes : ∀ b ∈ D.sure, b.length = 64
  ubytes : ∀ x ∈ D.uns, x.2.length = 64
def Rk.broken (D : Rk) : Bool := D.ends && decide (D.left = 0)
/-- What the last of the first k writes to sector i left. -/
def lastOf (U : List (Nat × List Int)) (i : Nat) (b : List Int) : Nat → List Int
  | 0 => b
  | k + 1 => if (U[k]?.map (·.1)) = some i then (U[k]?.map (·.2)).getD [] else lastOf U i b k
def Rk.read (D : Rk) (i : Int) : List Int := if h : 0 ≤ i ∧ i.toNat < D.sure.length then lastOf D.uns i.toNat D.sure[i.toNat] D.uns.length else []
def Rk.write (D : Rk) (i : Int) (bs : List Int) : Rk × Bool :=
  if i < 0 ∨ (D.sure.length : Int) ≤ i ∨ bs.length ≠ 64 ∨ D.broken = true then (D, false)
  else (⟨D.sure, D.uns ++ [(i.toNat, bs)], if D.ends then D.left - 1 else D.left, D.ends, D.count + 1⟩, true)
/-- All stay. -/
def settleA (U : List (Nat × List Int)) (S : List (List Int)) : Nat → List (List Int)
  | 0 => S
  | i + 1 => (settleA U S i).set (U[i]?.map (·.1) |>.getD 0) (U[i]?.map (·.2) |>.getD [])
def Rk.sync (D : Rk) : Rk × Bool := if D.broken = true then (D, false) else (⟨settleA D.uns D.sure D.uns.length, [], D.left, D.ends, D.count⟩, true)
def Rk.crash (D : Rk) (kp : List Bool) : Rk := ⟨settleN kp D.uns D.sure D.uns.length, [], D.left, false, D.count⟩
def cutI (n lo hi : Int) : Int := if n < lo then lo else if hi < n then hi else n
def Rk.brk (D : Rk) (n : Int) : Rk := if D.broken = true then D else ⟨D.sure, D.uns, cutI n 0 1073741824, true, D.count⟩
end Go.Proofs.Ytbfcaapompkjhaa
