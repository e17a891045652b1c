/-
  posteref14.Free: the state of its walk.
-/
import Derived.Test.YtbckobclicogiaaMl
set_option linter.unusedVariables false
set_option linter.unusedSimpArgs false
namespace Go.Proofs.Ytbckobclicogiaa
open Go.RowKit Go.Proofs.PosteMem
attribute [local go_sem ↓] Go.wp_at_zero Go.wp_at_succ

/-- The state of the walk: the copy's box p, the result's, the copy's slices. -/
structure Sr (w W : World) (p : Nat) (o : Ob) (r m d : Value) : Prop where
  low : w.heap.size + 2 ≤ p
  box : Whole W p 25 (o.cells r m d)
  res : Whole W (w.heap.size + 1) 25 #[.string ⟨#[]⟩, .int .i64 0, .int .i64 0, .slice none 0 0, .slice none 0 0, .slice none 0 0]
  ob : OOb W (w.heap.size + 2) o r m d
  acc : Below w.heap.size w W
theorem Sr.below {w W W' : World} {p : Nat} {o : Ob} {r m d : Value} (h : Sr w W p o r m d) (hb : Below W.heap.size W W') : Sr w W' p o r m d := ⟨h.low, h.box.below hb, h.res.below hb, h.ob.below hb, below_then h.acc hb⟩
theorem Sr.end {w W : World} {p : Nat} {o : Ob} {r m d : Value} (h : Sr w W p o r m d) : OOb (set6 W (w.heap.size + 1) (.string o.name) (.int .i64 o.kind) (.int .i64 o.limit) r m d) w.heap.size o r m d ∧ Below w.heap.size w (set6 W (w.heap.size + 1) (.string o.name) (.int .i64 o.kind) (.int .i64 o.limit) r m d) ∧
    Whole (set6 W (w.heap.size + 1) (.string o.name) (.int .i64 o.kind) (.int .i64 o.limit) r m d) (w.heap.size + 1) 25 (o.cells r m d) := by
  obtain ⟨h1, h2⟩ := clone_out h.ob (set6_upd W (w.heap.size + 1) (.string o.name) (.int .i64 o.kind) (.int .i64 o.limit) r m d) h.acc h.res.lt
  exact ⟨h1, h2, set6_whole _ _ _ _ _ _ h.res⟩
theorem Sr.msg {w W : World} {p : Nat} {o : Ob} {r d : Value} {g cap : Nat} (h : Sr w W p o r (.slice (some ⟨g, 0, none⟩) o.msgs.length cap) d) (k : Nat) (hk : k < o.msgs.length) (j : Nat) (hj : j < 6) (u : Value) (y : Msg) (hy : y.cells = (o.msgs[k].cells).set j u) :
    Sr w (W.setCell ⟨g, k * 6 + j, none⟩ u) p ⟨o.name, o.kind, o.limit, o.rows, o.msgs.set k y, o.dead⟩ r (.slice (some ⟨g, 0, none⟩) o.msgs.length cap) d := by
  have hg := own_block h.ob.msgs
  have hpg : p ≠ g := fun e => own_ne_whole h.ob.msgs h.box (by decide) (by rw [e]; rfl)
  refine ⟨h.low, h.box.other (show p ≠ g from hpg) u, h.res.other (show w.heap.size + 1 ≠ g by omega) u, ⟨own_setCell h.ob.rows ?_ u, omsgs_set h.ob.msgs k hk j hj u y hy, own_setCell h.ob.dead (h.ob.apart g rfl) u, h.ob.apart⟩, h.acc.setCell (show w.heap.size ≤ g by omega) u⟩
  exact fun e => own_ne_own h.ob.rows h.ob.msgs (by decide) g e rfl
theorem Sr.msg6 {w W : World} {p : Nat} {o : Ob} {r d : Value} {g cap : Nat} (h : Sr w W p o r (.slice (some ⟨g, 0, none⟩) o.msgs.length cap) d) (k : Nat) (hk : k < o.msgs.length) (y : Msg) :
    Sr w (setM W g (k * 6) y) p ⟨o.name, o.kind, o.limit, o.rows, o.msgs.set k y, o.dead⟩ r (.slice (some ⟨g, 0, none⟩) o.msgs.length cap) d := by
  obtain ⟨name, kind, limit, R, M, D⟩ := o
  simp only at hk h ⊢
  generalize hx : M[k] = x
  obtain ⟨x0, x1, x2, x3, x4, x5⟩ := x
  have a0 := h.msg k hk 0 (by decide) (.int .i64 y.id) ⟨y.id, x1, x2, x3, x4, x5⟩ (by simp only [hx]; rfl)
  simp only [Nat.add_zero] at a0
  have a1 := Sr.msg (g := g) (cap := cap) (o := ⟨name, kind, limit, R, M.set k ⟨y.id, x1, x2, x3, x4, x5⟩, D⟩) (by simpa only [List.length_set] using a0) k (by simpa using hk) 1 (by decide) (.int .i64 y.pri) ⟨y.id, y.pri, x2, x3, x4, x5⟩ (by simp only [List.getElem_set_self]; rfl)
  simp only [List.set_set] at a1
  have a2 := Sr.msg (g := g) (cap := cap) (o := ⟨name, kind, limit, R, M.set k ⟨y.id, y.pri, x2, x3, x4, x5⟩, D⟩) (by simpa only [List.length_set] using a1) k (by simpa using hk) 2 (by decide) (.int .i64 y.retry) ⟨y.id, y.pri, y.retry, x3, x4, x5⟩ (by simp only [List.getElem_set_self]; rfl)
  simp only [List.set_set] at a2
  have a3 := Sr.msg (g := g) (cap := cap) (o := ⟨name, kind, limit, R, M.set k ⟨y.id, y.pri, y.retry, x3, x4, x5⟩, D⟩) (by simpa only [List.length_set] using a2) k (by simpa using hk) 3 (by decide) (.bool y.claimed) ⟨y.id, y.pri, y.retry, y.claimed, x4, x5⟩ (by simp only [List.getElem_set_self]; rfl)
  simp only [List.set_set] at a3
  have a4 := Sr.msg (g := g) (cap := cap) (o := ⟨name, kind, limit, R, M.set k ⟨y.id, y.pri, y.retry, y.claimed, x4, x5⟩, D⟩) (by simpa only [List.length_set] using a3) k (by simpa using hk) 4 (by decide) (.string y.corr) ⟨y.id, y.pri, y.retry, y.claimed, y.corr, x5⟩ (by simp only [List.getElem_set_self]; rfl)
  simp only [List.set_set] at a4
  have a5 := Sr.msg (g := g) (cap := cap) (o := ⟨name, kind, limit, R, M.set k ⟨y.id, y.pri, y.retry, y.claimed, y.corr, x5⟩, D⟩) (by simpa only [List.length_set] using a4) k (by simpa using hk) 5 (by decide) (.string y.body) y (by simp only [List.getElem_set_self]; rfl)
  simp only [List.set_set, List.length_set] at a5
  exact a5
/-- The copy's messages in a new row. -/
theorem Sr.newmsgs {w W W' : World} {p : Nat} {o : Ob} {r m d v : Value} {M' : List Msg} (h : Sr w W p o r m d) (hb : Below W.heap.size W W') (ho : OMsgs W' W.heap.size v M') :
    Sr w (W'.setCell ⟨p, 4, none⟩ v) p ⟨o.name, o.kind, o.limit, o.rows, M', o.dead⟩ r v d := by
  have h0 := h.below hb
  have hd := fun b (e : d.ownBlock = some b) => own_lt h.ob.dead e
  have hsz := h.acc.size
  have hl := h.res.lt
  have ho' : OMsgs W' (w.heap.size + 2) v M' := own_mono ho (by omega)
  refine ⟨h.low, h0.box.set 4 v, h0.res.other (show w.heap.size + 1 ≠ p by have := h.low; omega) v, ⟨own_setCell h0.ob.rows ?_ v, own_setCell ho' ?_ v, own_setCell h0.ob.dead ?_ v, fun b e1 e2 => ?_⟩, h0.acc.setCell (show w.heap.size ≤ p by have := h.low; omega) v⟩
  · exact own_ne_whole h0.ob.rows h0.box (by decide)
  · exact own_ne_whole ho' h0.box (by decide)
  · exact own_ne_whole h0.ob.dead h0.box (by decide)
  · have := (own_lt ho e1).1
    have := (hd b e2).2
    omega
theorem Sr.newdead {w W W' : World} {p : Nat} {ob : Obj} {o : Ob} {r m d v : Value} {x : Msg} (h : Sr w W p o r m d) (hg : (W.alloc ob).grownBy W' d.ownBlock) (ho : W'.ownsRow (w.heap.size + 2) 34 6 v (o.dead.length + 1) (o.dead.flatMap Msg.cells ++ x.cells)) (hat : v.ownBlock = d.ownBlock ∨ v.ownBlock = some (W.alloc ob).heap.size) :
    Sr w (W'.setCell ⟨p, 5, none⟩ v) p ⟨o.name, o.kind, o.limit, o.rows, o.msgs, o.dead ++ [x]⟩ r m v := by
  have h0 := h.below ((Below.refl W.heap.size W).alloc (Nat.le_refl _) ob)
  have hd := fun b (e : d.ownBlock = some b) => own_lt h.ob.dead e
  have hm := fun b (e : m.ownBlock = some b) => own_lt h.ob.msgs e
  have hbox : Whole W' p 25 (o.cells r m d) := h0.box.grown hg (fun e => own_ne_whole h.ob.dead h.box (by decide) e)
  have hrows : ORows W' (w.heap.size + 2) r o.rows := own_grown h0.ob.rows hg (fun b e1 e2 => own_ne_own h.ob.rows h.ob.dead (by decide) b e1 e2)
  have hmsgs : OMsgs W' (w.heap.size + 2) m o.msgs := own_grown h0.ob.msgs hg (fun b e1 e2 => h.ob.apart b e1 e2)
  have hsz : (W.alloc ob).heap.size = W.heap.size + 1 := by simp
  refine ⟨h.low, hbox.set 5 v, (h0.res.grown hg (fun e => by have := (hd _ e).1; omega)).other (show w.heap.size + 1 ≠ p by have := h.low; omega) v, ⟨own_setCell hrows ?_ v, own_setCell hmsgs ?_ v, own_setCell (msgs_snoc ho) ?_ v, fun b e1 e2 => ?_⟩, (h0.acc.grown hg h0.acc.size (fun b e => by have := (hd _ e).1; omega)).setCell (show w.heap.size ≤ p by have := h.low; omega) v⟩
  · exact own_ne_whole hrows hbox (by decide)
  · exact own_ne_whole hmsgs hbox (by decide)
  · exact own_ne_whole (msgs_snoc ho) hbox (by decide)
  · rcases hat with e | e
    · exact h.ob.apart b e1 (e ▸ e2)
    · rw [e] at e2
      injection e2 with e2
      have := (hm b e1).2
      omega
/-- The begin: the copy, laid into a box of its own. -/
theorem sr_begin {w W1 : World} {o : Ob} {r m d r' m' d' : Value}
    (hb1 : Below ((w.alloc (.cells (o.cells r m d) 25)).alloc (.cells #[.string ⟨#[]⟩, .int .i64 0, .int .i64 0, .slice none 0 0, .slice none 0 0, .slice none 0 0] 25)).heap.size ((w.alloc (.cells (o.cells r m d) 25)).alloc (.cells #[.string ⟨#[]⟩, .int .i64 0, .int .i64 0, .slice none 0 0, .slice none 0 0, .slice none 0 0] 25)) W1)
    (ho : OOb W1 ((w.alloc (.cells (o.cells r m d) 25)).alloc (.cells #[.string ⟨#[]⟩, .int .i64 0, .int .i64 0, .slice none 0 0, .slice none 0 0, .slice none 0 0] 25)).heap.size o r' m' d') :
    Sr w (W1.alloc (.cells (o.cells r' m' d') 25)) W1.heap.size o r' m' d' ∧ Whole (W1.alloc (.cells (o.cells r' m' d') 25)) w.heap.size 25 (o.cells r m d) := by
  have hsz : ((w.alloc (.cells (o.cells r m d) 25)).alloc (.cells #[.string ⟨#[]⟩, .int .i64 0, .int .i64 0, .slice none 0 0, .slice none 0 0, .slice none 0 0] 25)).heap.size = w.heap.size + 2 := by simp
  have hs1 := hb1.size
  rw [hsz] at ho hs1
  have x1 : Whole W1 w.heap.size _ _ := ((Whole.new w 25 (o.cells r m d)).alloc _).below hb1
  have x2 : Whole W1 (w.heap.size + 1) 25 #[.string ⟨#[]⟩, .int .i64 0, .int .i64 0, .slice none 0 0, .slice none 0 0, .slice none 0 0] := by
    have := (Whole.new (w.alloc (.cells (o.cells r m d) 25)) 25 #[.string ⟨#[]⟩, .int .i64 0, .int .i64 0, .slice none 0 0, .slice none 0 0, .slice none 0 0]).below hb1
    rwa [show (w.alloc (.cells (o.cells r m d) 25)).heap.size = w.heap.size + 1 by simp] at this
  have hacc : Below w.heap.size w W1 := below_then (by (refine upd_to_below ?_; repeat (first | exact Upd.refl _ _ | refine Upd.setCell ?_ (Or.inl (by simp)) _ | refine Upd.alloc ?_ _ | refine Upd.drewN ?_ _ | refine Upd.drew ?_))) hb1
  have hal := (Below.refl W1.heap.size W1).alloc (Nat.le_refl _) (.cells (o.cells r' m' d') 25)
  exact ⟨⟨hs1, Whole.new W1 _ _, x2.below hal, ho.below hal, below_then hacc hal⟩, x1.below hal⟩
end Go.Proofs.Ytbckobclicogiaa
