/-
  posteref14.CopyObject and Copy, each by its contract.
-/
import Derived.Test.YtegomkgfmaclkaaVi
import Derived.Test.YtegomkgfmaclkaaSl2
import Derived.Laws.Rows
import Derived.Deep.DrawnRows
set_option linter.unusedVariables false
set_option linter.unusedSimpArgs false
namespace Go.Proofs.Ytegomkgfmaclkaa
open Go.RowKit Go.Proofs.PosteOrd Go.Proofs.PosteMem

/-- An object of api. -/
structure Oc where
  name : ByteArray
  kind : Int
  limit : Int
  rows : List Row
  msgs : List Msg
  dead : List Msg
/-- Its cells, the slices' values beside. -/
def Oc.cells (o : Oc) (r m d : Value) : Array Value := #[.string o.name, .int .i64 o.kind, .int .i64 o.limit, r, m, d]
/-- An object that is read. -/
structure VOc (w : World) (o : Oc) (r m d : Value) : Prop where
  rows : VRows w r o.rows
  msgs : VMsgs w m o.msgs
  dead : VMsgs w d o.dead
/-- An object whose slices are the call's own. -/
structure OOc (w : World) (B : Nat) (o : Oc) (r m d : Value) : Prop where
  rows : ORows w B r o.rows
  msgs : OMsgs w B m o.msgs
  dead : OMsgs w B d o.dead
  apart : ∀ b, m.ownBlock = some b → d.ownBlock ≠ some b
theorem OOc.view {w : World} {B : Nat} {o : Oc} {r m d : Value} (h : OOc w B o r m d) : VOc w o r m d := ⟨View.of_own h.rows, View.of_own h.msgs, View.of_own h.dead⟩
theorem VOc.below {w w' : World} {o : Oc} {r m d : Value} (h : VOc w o r m d) (hb : Below w.heap.size w w') : VOc w' o r m d := ⟨View.below h.rows hb, View.below h.msgs hb, View.below h.dead hb⟩
theorem OOc.below {w w' : World} {B : Nat} {o : Oc} {r m d : Value} (h : OOc w B o r m d) (hb : Below w.heap.size w w') : OOc w' B o r m d := ⟨own_below h.rows hb, own_below h.msgs hb, own_below h.dead hb, h.apart⟩
def Oc.small (o : Oc) : Prop := o.rows.length ≤ 1000000 ∧ o.msgs.length ≤ 1000000 ∧ o.dead.length ≤ 1000000
def set6 (w : World) (g : Nat) (a b c x y z : Value) : World := (((((w.setCell ⟨g, 0, none⟩ a).setCell ⟨g, 1, none⟩ b).setCell ⟨g, 2, none⟩ c).setCell ⟨g, 3, none⟩ x).setCell ⟨g, 4, none⟩ y).setCell ⟨g, 5, none⟩ z
theorem set6_whole {w : World} {g : Nat} {T : TypeId} {a' b' c' d' e' f' : Value} (a b c x y z : Value) (h : Whole w g T #[a', b', c', d', e', f']) : Whole (set6 w g a b c x y z) g T #[a, b, c, x, y, z] := (((((h.set 0 a).set 1 b).set 2 c).set 3 x).set 4 y).set 5 z
theorem set6_upd (w : World) (g : Nat) (a b c x y z : Value) : Upd (fun b => b = g) w (set6 w g a b c x y z) := by
  unfold set6
  exact ((((((Upd.refl (fun b => b = g) w).setCell (p := ⟨g, 0, none⟩) (.inr rfl) a).setCell (p := ⟨g, 1, none⟩) (.inr rfl) b).setCell (p := ⟨g, 2, none⟩) (.inr rfl) c).setCell (p := ⟨g, 3, none⟩) (.inr rfl) x).setCell (p := ⟨g, 4, none⟩) (.inr rfl) y).setCell (p := ⟨g, 5, none⟩) (.inr rfl) z
theorem clone_out {w w' W : World} {n : Nat} {o : Oc} {r m d : Value} (h : OOc w (n + 2) o r m d) (up : Upd (fun b => b = n + 1) w w') (hB : Below n W w) (hn : n + 1 < w.heap.size) : OOc w' n o r m d ∧ Below n W w' := by
  refine ⟨⟨own_upd (own_mono h.rows (by omega)) up (fun b hb e => ?_), own_upd (own_mono h.msgs (by omega)) up (fun b hb e => ?_), own_upd (own_mono h.dead (by omega)) up (fun b hb e => ?_), h.apart⟩, hB.trans ⟨up.os, up.tape, up.output, up.size, fun k hk => ?_⟩⟩
  · have := (own_lt h.rows hb).1; omega
  · have := (own_lt h.msgs hb).1; omega
  · have := (own_lt h.dead hb).1; omega
  · exact up.block k (by omega) (by omega)



set_option maxRecDepth 100000 in
set_option maxHeartbeats 8000000 in
theorem copyOc_any (w : World) (o : Oc) (r m d : Value) (h : VOc w o r m d) (hs : o.small) :
    Calls Try.prog 93 #[.agg (o.cells r m d)] w fun e w' => ∃ r' m' d', e = .returned (.agg (o.cells r' m' d')) ∧ OOc w' w.heap.size o r' m' d' ∧ Below w.heap.size w w' := by
  obtain ⟨s1, s2, s3⟩ := hs
  obtain ⟨i0, hi0, hz0, hz1, hz2⟩ := info_parts infoRow
  obtain ⟨j0, hj0, hy0, hy1, hy2⟩ := info_parts infoMsg
  obtain ⟨name, kind, limit, R, M, D⟩ := o
  simp only at s1 s2 s3
  have v1 := Lib.hid (fun W (hb : Below w.heap.size w W) => View.below h.rows hb)
  have v2 := Lib.hid (fun W (hb : Below w.heap.size w W) => View.below h.msgs hb)
  have v3 := Lib.hid (fun W (hb : Below w.heap.size w W) => View.below h.dead hb)
  clear h
  unfold Oc.cells
  simp only at *
  have hbx := Whole.alloc (Whole.new w 42 #[.string name, .int .i64 kind, .int .i64 limit, r, m, d]) (.cells #[.string ⟨#[]⟩, .int .i64 0, .int .i64 0, .slice none 0 0, .slice none 0 0, .slice none 0 0] 42)
  have hb2 : Whole ((w.alloc (.cells #[.string name, .int .i64 kind, .int .i64 limit, r, m, d] 42)).alloc (.cells #[.string ⟨#[]⟩, .int .i64 0, .int .i64 0, .slice none 0 0, .slice none 0 0, .slice none 0 0] 42)) (w.heap.size + 1) 42 #[.string ⟨#[]⟩, .int .i64 0, .int .i64 0, .slice none 0 0, .slice none 0 0, .slice none 0 0] := by
    have := Whole.new (w.alloc (.cells #[.string name, .int .i64 kind, .int .i64 limit, r, m, d] 42)) 42 #[.string ⟨#[]⟩, .int .i64 0, .int .i64 0, .slice none 0 0, .slice none 0 0, .slice none 0 0]
    rwa [show (w.alloc (.cells #[.string name, .int .i64 kind, .int .i64 limit, r, m, d] 42)).heap.size = w.heap.size + 1 by simp] at this
  have hacc : Below w.heap.size w ((w.alloc (.cells #[.string name, .int .i64 kind, .int .i64 limit, r, m, d] 42)).alloc (.cells #[.string ⟨#[]⟩, .int .i64 0, .int .i64 0, .slice none 0 0, .slice none 0 0, .slice none 0 0] 42)) := by (refine upd_to_below ?_; repeat (first | exact Upd.refl _ _ | refine Upd.setCell ?_ (Or.inl (by simp)) _ | refine Upd.alloc ?_ _ | refine Upd.drewN ?_ _ | refine Upd.drew ?_))
  obtain ⟨A1, e1, hr⟩ : ∃ A c, r = .slice A R.length c := by
    obtain ⟨A, c, e, _⟩ := (v1.out w (Below.refl _ _)).cells
    exact ⟨A, c, e⟩
  obtain ⟨A2, e2, hm⟩ : ∃ A c, m = .slice A M.length c := by
    obtain ⟨A, c, e, _⟩ := (v2.out w (Below.refl _ _)).cells
    exact ⟨A, c, e⟩
  obtain ⟨A3, e3, hd⟩ : ∃ A c, d = .slice A D.length c := by
    obtain ⟨A, c, e, _⟩ := (v3.out w (Below.refl _ _)).cells
    exact ⟨A, c, e⟩
  subst hr hm hd
  go_enter Try.func93, Try.ntmps93
  go_wp2_with (first
    | (at_builtin; refine wpList_append_new _ rfl (.const (.slice none 0 0)) (.tmp 4) _ rfl (w.heap.size + 2) 31 i0 zRow 2 32 Try.underlying22 hi0 hz0 hz1 hz2 rfl (by decide) rfl _ R.length _ rfl (v1.out _ hacc) (Row.one _) (by omega) (by simp only [maxLen]; omega) (by simp) ?_; intro B1 n1 w1 hown1 hm1 hc1 hA1 hg1 hat1; have x1 := hbx.grown hg1 (by simp); have z1 := hb2.grown hg1 (by simp); have hB1 := hacc.grown hg1 (by simp; omega) (by simp); have hlt1 := z1.lt; clear hbx hb2 hacc; have f3 := x1.frozen 3; have c3 := x1.cell 3; have c4 := x1.cell 4; have c5 := x1.cell 5)
    | (at_builtin; refine wpList_append_new _ rfl (.const (.slice none 0 0)) (.tmp 8) _ rfl (w.heap.size + 2) 48 j0 zMsg 6 64 Try.underlying40 hj0 hy0 hy1 hy2 rfl (by decide) rfl _ M.length _ rfl (v2.out _ (hB1.setCell (by simp) _)) (Msg.one _) (by omega) (by simp only [maxLen]; omega) (by first | (simp [World.setCell]; done) | (simp [World.setCell]; omega)) ?_; intro B2 n2 w2 hown2 hm2 hc2 hA2 hg2 hat2; have x2 : Whole w2 w.heap.size 42 #[.string name, .int .i64 kind, .int .i64 limit, .slice B1 R.length n1, .slice A2 M.length e2, .slice A3 D.length e3] := (x1.set 3 _).grown hg2 (by simp); have z2 := (z1.other (p := ⟨w.heap.size, 3, none⟩) (by simp) (.slice B1 R.length n1)).grown hg2 (by simp); have hB2 := (hB1.setCell (p := ⟨w.heap.size, 3, none⟩) (Nat.le_refl _) (.slice B1 R.length n1)).grown hg2 (by first | (simp [World.setCell]; done) | (simp [World.setCell]; omega)) (by simp); have ho1 : ORows w2 (w.heap.size + 2) (.slice B1 R.length n1) R := own_grown (own_setCell hown1 (own_ne_whole hown1 x1 (by decide)) _) hg2 (by simp); have hlt2 := z2.lt; clear x1 z1 f3 c3 c4 c5 hlt1 hg1 hg2; have f4 := x2.frozen 4; have c3 := x2.cell 3; have c4 := x2.cell 4; have c5 := x2.cell 5)
    | (at_builtin; refine wpList_append_new _ rfl (.const (.slice none 0 0)) (.tmp 12) _ rfl (w.heap.size + 2) 48 j0 zMsg 6 64 Try.underlying40 hj0 hy0 hy1 hy2 rfl (by decide) rfl _ D.length _ rfl (v3.out _ (hB2.setCell (by simp) _)) (Msg.one _) (by omega) (by simp only [maxLen]; omega) (by first | (simp [World.setCell]; done) | (simp [World.setCell]; omega)) ?_; intro B3 n3 w3 hown3 hm3 hc3 hA3 hg3 hat3; have x3 : Whole w3 w.heap.size 42 #[.string name, .int .i64 kind, .int .i64 limit, .slice B1 R.length n1, .slice B2 M.length n2, .slice A3 D.length e3] := (x2.set 4 _).grown hg3 (by simp); have z3 := (z2.other (p := ⟨w.heap.size, 4, none⟩) (by simp) (.slice B2 M.length n2)).grown hg3 (by simp); have hB3 := (hB2.setCell (p := ⟨w.heap.size, 4, none⟩) (Nat.le_refl _) (.slice B2 M.length n2)).grown hg3 (by first | (simp [World.setCell]; done) | (simp [World.setCell]; omega)) (by simp); have hat3' : (Value.slice B3 D.length n3).ownBlock = none ∨ (Value.slice B3 D.length n3).ownBlock = some w2.heap.size := hat3.imp id (fun h => h.trans (by simp [World.setCell])); have ho1' : ORows w3 (w.heap.size + 2) (.slice B1 R.length n1) R := own_grown (own_setCell ho1 (own_ne_whole ho1 x2 (by decide)) _) hg3 (by simp); have ho2' : OMsgs w3 (w.heap.size + 2) (.slice B2 M.length n2) M := own_grown (own_setCell hown2 (own_ne_whole hown2 x2 (by decide)) _) hg3 (by simp); have hl2 := fun b (hb : (Value.slice B2 M.length n2).ownBlock = some b) => (own_lt hown2 hb).2; have hlt3 := z3.lt; clear x2 z2 f4 c3 c4 c5 hlt2 hg3 ho1; have f5 := x3.frozen 5; have c0 := x3.cell 0; have c1 := x3.cell 1; have c2 := x3.cell 2; have c3 := x3.cell 3; have c4 := x3.cell 4; have c5 := x3.cell 5; have y0 := z3.cell 0; have y1 := z3.cell 1; have y2 := z3.cell 2; have y3 := z3.cell 3; have y4 := z3.cell 4; have y5 := z3.cell 5; have k0 := z3.frozen 0; have k1 := z3.frozen 1; have k2 := z3.frozen 2; have k3 := z3.frozen 3; have k4 := z3.frozen 4; have k5 := z3.frozen 5))
  have x4 : Whole (w3.setCell ⟨w.heap.size, 5, none⟩ (.slice B3 D.length n3)) w.heap.size 42 #[.string name, .int .i64 kind, .int .i64 limit, .slice B1 R.length n1, .slice B2 M.length n2, .slice B3 D.length n3] := x3.set 5 _
  have z4 := z3.other (p := ⟨w.heap.size, 5, none⟩) (by simp) (.slice B3 D.length n3)
  have hB4 := hB3.setCell (p := ⟨w.heap.size, 5, none⟩) (Nat.le_refl _) (.slice B3 D.length n3)
  have hfin : OOc (w3.setCell ⟨w.heap.size, 5, none⟩ (.slice B3 D.length n3)) (w.heap.size + 2) ⟨name, kind, limit, R, M, D⟩ (.slice B1 R.length n1) (.slice B2 M.length n2) (.slice B3 D.length n3) := by
    refine ⟨own_setCell ho1' (own_ne_whole ho1' x3 (by decide)) _, own_setCell ho2' (own_ne_whole ho2' x3 (by decide)) _, own_setCell hown3 (own_ne_whole hown3 x3 (by decide)) _, fun b hb hb' => ?_⟩
    have := hl2 b hb
    rcases hat3' with h | h
    · rw [h] at hb'; cases hb'
    · rw [h] at hb'; injection hb' with hb'; omega
  obtain ⟨hf, hB5⟩ := clone_out hfin (set6_upd _ (w.heap.size + 1) (.string name) (.int .i64 kind) (.int .i64 limit) (.slice B1 R.length n1) (.slice B2 M.length n2) (.slice B3 D.length n3)) hB4 z4.lt
  exact bodyPost_ret (results_cell_row rfl _ _ (w.heap.size + 1) _ _ _ _ rfl (set6_whole (.string name) (.int .i64 kind) (.int .i64 limit) (.slice B1 R.length n1) (.slice B2 M.length n2) (.slice B3 D.length n3) z4) Try.underlying42 rfl (by kernel_rfl)) rfl ⟨_, _, _, rfl, hf, hB5⟩


theorem infoOb : (Try.prog.info? 42).map (fun i => (i.zero, i.size, i.bytes)) = some (some (.agg #[.string ⟨#[]⟩, .int .i64 0, .int .i64 0, .slice none 0 0, .slice none 0 0, .slice none 0 0]), 6, 104) := by kernel_rfl
/-- An object whose slices are the call's own. -/
structure OOb (w : World) (B : Nat) (o : Ob) : Prop where
  rows : ORows w B o.r o.rows
  msgs : OMsgs w B o.m o.msgs
  dead : OMsgs w B o.d o.dead
/-- A slice of objects of the call's own. -/
structure OObs (w : World) (B : Nat) (v : Value) (N : List Ob) : Prop where
  arr : w.ownsRow B 42 6 v N.length (N.flatMap Ob.cells)
  each : ∀ o ∈ N, OOb w B o
abbrev Dat := ByteArray × Int × Int × List Row × List Msg × List Msg
def Ob.dat (o : Ob) : Dat := (o.name, o.kind, o.limit, o.rows, o.msgs, o.dead)
theorem OOb.view {w : World} {B : Nat} {o : Ob} (h : OOb w B o) : VOb w o := ⟨View.of_own h.rows, View.of_own h.msgs, View.of_own h.dead⟩
theorem OObs.view {w : World} {B : Nat} {v : Value} {N : List Ob} (h : OObs w B v N) : VObs w v N := ⟨View.of_own h.arr, fun o ho => (h.each o ho).view⟩
theorem OOb.mono {w : World} {B B' : Nat} {o : Ob} (h : OOb w B o) (hb : B' ≤ B) : OOb w B' o := ⟨own_mono h.rows hb, own_mono h.msgs hb, own_mono h.dead hb⟩
theorem OOb.upd {w w' : World} {B : Nat} {o : Ob} {S : Nat → Prop} (h : OOb w B o) (k : Upd S w w') (hS : ∀ b, (o.r.ownBlock = some b ∨ o.m.ownBlock = some b ∨ o.d.ownBlock = some b) → ¬ S b) : OOb w' B o :=
  ⟨own_upd h.rows k (fun b hb => hS b (.inl hb)), own_upd h.msgs k (fun b hb => hS b (.inr (.inl hb))), own_upd h.dead k (fun b hb => hS b (.inr (.inr hb)))⟩
theorem OOb.below {w w' : World} {B : Nat} {o : Ob} (h : OOb w B o) (k : Below w.heap.size w w') : OOb w' B o := h.upd (Upd.of_below (S := fun _ => False) k) (fun _ _ t => t)
theorem OObs.below {w w' : World} {B : Nat} {v : Value} {N : List Ob} (h : OObs w B v N) (k : Below w.heap.size w w') : OObs w' B v N := ⟨own_below h.arr k, fun o ho => (h.each o ho).below k⟩
theorem OObs.upd {w w' : World} {B : Nat} {v : Value} {N : List Ob} {S : Nat → Prop} (h : OObs w B v N) (k : Upd S w w') (hS : ∀ b, S b → b < B) : OObs w' B v N := by
  refine ⟨own_upd h.arr k (fun b hb e => ?_), fun o ho => (h.each o ho).upd k (fun b hb e => ?_)⟩
  · have := (own_lt h.arr hb).1
    have := hS b e
    omega
  · have h2 := hS b e
    rcases hb with hb | hb | hb
    · have := (own_lt (h.each o ho).rows hb).1; omega
    · have := (own_lt (h.each o ho).msgs hb).1; omega
    · have := (own_lt (h.each o ho).dead hb).1; omega
theorem OObs.mono {w : World} {B B' : Nat} {v : Value} {N : List Ob} (h : OObs w B v N) (hb : B' ≤ B) : OObs w B' v N := ⟨own_mono h.arr hb, fun o ho => (h.each o ho).mono hb⟩
/-- The array's block is none of an object's own. -/
theorem OOb.apart {w : World} {B B' n : Nat} {o : Ob} {v : Value} {xs : List Value} (h : OOb w B o) (hv : w.ownsRow B' 42 6 v n xs) (b : Nat) (hb : o.r.ownBlock = some b ∨ o.m.ownBlock = some b ∨ o.d.ownBlock = some b) : v.ownBlock ≠ some b := by
  rcases hb with hb | hb | hb
  · exact own_ne_own h.rows hv (by decide) b hb
  · exact own_ne_own h.msgs hv (by decide) b hb
  · exact own_ne_own h.dead hv (by decide) b hb
theorem OOb.one {w : World} {B : Nat} {o : Ob} (h : OOb w B o) : ∀ u ∈ o.cells, u.oneCell' = true := by
  intro u hu
  obtain ⟨_, _, e1, _⟩ := own_shape h.rows
  obtain ⟨_, _, e2, _⟩ := own_shape h.msgs
  obtain ⟨_, _, e3, _⟩ := own_shape h.dead
  simp only [Ob.cells, List.mem_cons, List.not_mem_nil, or_false] at hu
  rcases hu with rfl | rfl | rfl | rfl | rfl | rfl
  · rfl
  · rfl
  · rfl
  · rw [e1]; rfl
  · rw [e2]; rfl
  · rw [e3]; rfl
theorem OObs.app {w w' : World} {B : Nat} {v v' : Value} {N : List Ob} {o : Ob} (h : OObs w B v N) (ho : OOb w B o) (hown : w'.ownsRow B 42 6 v' (N.length + 1) (N.flatMap Ob.cells ++ o.cells)) (hg : w.grownBy w' v.ownBlock) : OObs w' B v' (N ++ [o]) := by
  have hu := Upd.of_grown (S := fun b => v.ownBlock = some b) hg (fun _ h => h)
  refine ⟨?_, fun x hx => ?_⟩
  · rw [List.length_append, List.length_singleton, List.flatMap_append, List.flatMap_cons, List.flatMap_nil, List.append_nil]
    exact hown
  · rcases List.mem_append.1 hx with hx | hx
    · exact (h.each x hx).upd hu (fun b hb => (h.each x hx).apart h.arr b hb)
    · obtain rfl := List.mem_singleton.1 hx
      exact ho.upd hu (fun b hb => ho.apart h.arr b hb)

set_option maxRecDepth 100000 in
set_option maxHeartbeats 8000000 in
theorem copyS_any (w : World) (next : Int) (v : Value) (L : List Ob) (hL : VObs w v L) (hm : L.length ≤ 1000) (hf : ∀ o ∈ L, o.few) :
    Calls Try.prog 71 #[.agg #[.int .i64 next, v]] w fun e w' => ∃ v' N, e = .returned (.agg #[.int .i64 next, v']) ∧ OObs w' w.heap.size v' N ∧ N.map Ob.dat = L.map Ob.dat ∧ Below w.heap.size w w' := by
  obtain ⟨i0, hi0, hz0, hz1, hz2⟩ := info_parts infoOb
  obtain ⟨A, cap, rfl, hc, _⟩ := hL.view.cells
  have hbx := Lib.hid ((Whole.new w 45 #[.int .i64 next, .slice A L.length cap]).alloc (.cells #[.int .i64 0, .slice none 0 0] 45))
  have hbr := Whole.new (w.alloc (.cells #[.int .i64 next, .slice A L.length cap] 45)) 45 #[.int .i64 0, .slice none 0 0]
  rw [show (w.alloc (.cells #[.int .i64 next, .slice A L.length cap] 45)).heap.size = w.heap.size + 1 by simp] at hbr
  have hb0 : Below w.heap.size w ((w.alloc (.cells #[.int .i64 next, .slice A L.length cap] 45)).alloc (.cells #[.int .i64 0, .slice none 0 0] 45)) := by (refine upd_to_below ?_; repeat (first | exact Upd.refl _ _ | refine Upd.setCell ?_ (Or.inl (by simp)) _ | refine Upd.alloc ?_ _ | refine Upd.drewN ?_ _ | refine Upd.drew ?_))
  replace hbr := Lib.hid hbr
  replace hb0 := Lib.hid hb0
  replace hL := Lib.hid hL
  replace hf := Lib.hid hf
  go_enter Try.func71, Try.ntmps71
  go_upto_region 3 with fail
  generalize (w.alloc (.cells #[.int .i64 next, .slice A L.length cap] 45)).alloc (.cells #[.int .i64 0, .slice none 0 0] 45) = wA at *
  go_loopw [3, 4] (fun a i wr => ∃ (k : Nat) (N : List Ob), k ≤ L.length ∧ i = .int .i64 k ∧ N.length = k ∧ N.map Ob.dat = (L.take k).map Ob.dat ∧ OObs wr (w.heap.size + 2) a N ∧ Whole wr w.heap.size 45 #[.int .i64 next, .slice A L.length cap] ∧ Whole wr (w.heap.size + 1) 45 #[.int .i64 0, .slice none 0 0] ∧ Below w.heap.size w wr) (fun _ i _ => L.length - (intOf i).toNat)
  case atStart => exact ⟨0, [], by omega, rfl, rfl, rfl, ⟨World.ownsRow_nil _ _ _ _, fun o h => by cases h⟩, hbx.out, hbr.out, hb0.out⟩
  case round =>
    clear hbx hbr hb0
    obtain ⟨k, N, hk, rfl, hNl, hNd, hN, hX, hR, hB⟩ := hrel
    have x0 : wr.cell? ⟨w.heap.size, 0, none⟩ = some (.int .i64 next) := hX.cell 0
    have x1 : wr.cell? ⟨w.heap.size, 1, none⟩ = some (.slice A L.length cap) := hX.cell 1
    have xl := hX.lt
    have hrl := hR.lt
    by_cases hlt : k < L.length
    · have q1 : (k : Int) < (L.length : Int) := by omega
      obtain ⟨b, off, cap', e, _, _, hblw, f⟩ := obs_at hL.out (by omega)
      injection e with e1 e2 e3
      subst e1 e3
      have hcb := fun {o : Nat} {v : Value} (h : w.cell? ⟨b, o, none⟩ = some v) => (hB.cell (p := ⟨b, o, none⟩) hblw).trans h
      obtain ⟨p0, p1, p2, p3, p4, p5⟩ := f k hlt
      replace p0 := hcb p0; replace p1 := hcb p1; replace p2 := hcb p2; replace p3 := hcb p3; replace p4 := hcb p4; replace p5 := hcb p5
      have hbl : b < wr.heap.size := Nat.lt_of_lt_of_le hblw hB.size
      clear hcb f
      have hO := (hL.out.each _ (List.getElem_mem hlt)).below hB
      obtain ⟨hf1, hf2, hf3⟩ := hf.out _ (List.getElem_mem hlt)
      have hdt : (L.take (k + 1)).map Ob.dat = (L.take k).map Ob.dat ++ [L[k].dat] := by rw [List.take_succ_eq_append_getElem hlt, List.map_append]; rfl
      have kC := copyOc_any wr ⟨L[k].name, L[k].kind, L[k].limit, L[k].rows, L[k].msgs, L[k].dead⟩ L[k].r L[k].m L[k].d ⟨hO.rows, hO.msgs, hO.dead⟩ ⟨Nat.le_trans hf1 (by omega), Nat.le_trans hf2 (by omega), Nat.le_trans hf3 (by omega)⟩
      clear hO
      generalize L[k] = o at *
      obtain ⟨on, ok', ol, oR, oM, oD, r1, m1, d1⟩ := o
      simp only at p0 p1 p2 p3 p4 p5 kC
      unfold Oc.cells at kC
      simp only at kC
      replace kC := Lib.hid kC
      replace hdt := Lib.hid hdt
      replace hNd := Lib.hid hNd
      replace hNl := Lib.hid hNl
      replace hN := Lib.hid hN
      replace hX := Lib.hid hX
      replace hR := Lib.hid hR
      replace hB := Lib.hid hB
      go_wp2_with fail
      refine kC.out.mono ?_; rintro e w4 ⟨r2, m2, d2, rfl, ho4, hb4⟩
      have hO4 : OOb w4 (w.heap.size + 2) ⟨on, ok', ol, oR, oM, oD, r2, m2, d2⟩ := (show OOb w4 wr.heap.size ⟨on, ok', ol, oR, oM, oD, r2, m2, d2⟩ from ⟨ho4.rows, ho4.msgs, ho4.dead⟩).mono (by omega)
      have hone := hO4.one
      have hal : Below w4.heap.size w4 (w4.alloc (.cells #[.string on, .int .i64 ok', .int .i64 ol, r2, m2, d2] 42)) := (Below.refl _ _).alloc (Nat.le_refl _) _
      have hal4 : Below wr.heap.size wr (w4.alloc (.cells #[.string on, .int .i64 ok', .int .i64 ol, r2, m2, d2] 42)) := below_then hb4 hal
      have hN4 := hN.out.below hal4
      have hX4 := Lib.hid (hX.out.below hal4)
      have hR4 := Lib.hid (hR.out.below hal4)
      have hB4 := Lib.hid (hB.out.trans (hal4.mono hB.out.size))
      have hO5 := Lib.hid (hO4.below hal)
      have hvx := View.boxAt (sz := 6) w4 (Ob.cells ⟨on, ok', ol, oR, oM, oD, r2, m2, d2⟩) 42 w4.heap.size rfl rfl
      have harr := hN4.arr
      have hszz : w.heap.size + 2 ≤ (w4.alloc (.cells #[.string on, .int .i64 ok', .int .i64 ol, r2, m2, d2] 42)).heap.size := Nat.le_trans (by omega) hal4.size
      have hNl2 : N.length ≤ 1000 := by have := hNl.out; omega
      replace hN4 := Lib.hid hN4
      replace harr := Lib.hid harr
      replace hvx := Lib.hid hvx
      replace hone := Lib.hid hone
      clear ho4 hb4 hO4 hal hal4 kC hN hX hR hB x0 x1 p0 p1 p2 p3 p4 p5
      go_wp2_with (at_builtin; refine wpList_append_view _ rfl (.tmp 12) (.tmp 19) _ rfl (w.heap.size + 2) 42 i0 _ 6 104 Try.underlying43 hi0 hz0 hz1 hz2 rfl (by decide) _ N.length _ rfl harr.out _ 1 (Ob.cells ⟨on, ok', ol, oR, oM, oD, r2, m2, d2⟩) rfl hvx.out hone.out (by omega) (by simp only [maxLen]; omega) hszz ?_; intro v5 w5 hown hg hat)
      have hN5 := hN4.out.app hO5.out hown hg
      have hu := Upd.of_grown (S := fun b => u3.ownBlock = some b) hg (fun _ h => h)
      have hge : ∀ b, u3.ownBlock = some b → w.heap.size + 2 ≤ b := fun b hb => (own_lt harr.out hb).1
      have hX5 := hX4.out.upd hu (fun e => by have := hge _ e; omega)
      have hR5 := hR4.out.upd hu (fun e => by have := hge _ e; omega)
      have hB5 := hB4.out.trans (hu.below hB4.out.size (fun b e => by have := hge _ e; omega))
      go_roundw
      case rel => exact ⟨k + 1, _, by omega, by go_num, by rw [List.length_append, hNl.out]; rfl, by rw [List.map_append, hNd.out, hdt.out]; rfl, hN5, hX5, hR5, hB5⟩
      case measure => simp [intOf]; omega
    · have hk3 : k = L.length := by omega
      subst hk3
      rw [List.take_length] at hNd
      have q1 : ¬ (L.length : Int) < (L.length : Int) := by omega
      have f1 := hX.frozen 1
      have y0 : wr.cell? ⟨w.heap.size + 1, 0, none⟩ = some (.int .i64 0) := hR.cell 0
      have y1 : wr.cell? ⟨w.heap.size + 1, 1, none⟩ = some (.slice none 0 0) := hR.cell 1
      have g0 := hR.frozen 0
      have g1 := hR.frozen 1
      obtain ⟨A5, c5, rfl, _, _, _⟩ := own_shape hN.arr
      replace hN := Lib.hid hN
      replace hX := Lib.hid hX
      replace hR := Lib.hid hR
      replace hB := Lib.hid hB
      replace hNd := Lib.hid hNd
      go_wp2_with fail
      have hu : Upd (fun b => b = w.heap.size ∨ b = w.heap.size + 1) wr (((wr.setCell ⟨w.heap.size, 1, none⟩ (.slice A5 N.length c5)).setCell ⟨w.heap.size + 1, 0, none⟩ (.int .i64 next)).setCell ⟨w.heap.size + 1, 1, none⟩ (.slice A5 N.length c5)) :=
        (((Upd.refl (fun b => b = w.heap.size ∨ b = w.heap.size + 1) wr).setCell (p := ⟨w.heap.size, 1, none⟩) (.inr (.inl rfl)) _).setCell (p := ⟨w.heap.size + 1, 0, none⟩) (.inr (.inr rfl)) _).setCell (p := ⟨w.heap.size + 1, 1, none⟩) (.inr (.inr rfl)) _
      have hR5 : Whole (((wr.setCell ⟨w.heap.size, 1, none⟩ (.slice A5 N.length c5)).setCell ⟨w.heap.size + 1, 0, none⟩ (.int .i64 next)).setCell ⟨w.heap.size + 1, 1, none⟩ (.slice A5 N.length c5)) (w.heap.size + 1) 45 #[.int .i64 next, .slice A5 N.length c5] := ((hR.out.other (p := ⟨w.heap.size, 1, none⟩) (by show ¬ w.heap.size + 1 = w.heap.size; omega) _).set 0 _).set 1 _
      have hN5 := (hN.out.upd hu (fun b e => by rcases e with e | e <;> omega)).mono (show w.heap.size ≤ w.heap.size + 2 by omega)
      have hB5 := hB.out.trans (hu.below hB.out.size (fun b e => by rcases e with e | e <;> omega))
      rw [hNl] at hR5 hN5 hB5
      exact bodyPost_ret (results_cell_row rfl _ _ (w.heap.size + 1) _ _ _ _ rfl hR5 Try.underlying45 rfl (by kernel_rfl)) rfl ⟨_, rfl, N, hN5, hNd.out, hB5⟩
end Go.Proofs.Ytegomkgfmaclkaa
