/-
  DeadLimit: the state of its walk (slot 6's box q holds the queue).
-/
import Derived.Test.YtbckobclicogiaaNj
import Derived.Test.YtbckobclicogiaaNc
set_option linter.unusedVariables false
set_option linter.unusedSimpArgs false
namespace Go.Proofs.Ytbckobclicogiaa
open Go.RowKit Go.Proofs.PosteMem

structure Sd (w W : World) (q : Nat) (o : Ob) (r m d : Value) : Prop where
  low : w.heap.size ≤ q
  box : Whole W q 25 (o.cells r m d)
  ob : OOb W w.heap.size o r m d
  acc : Below w.heap.size w W
theorem Sd.below {w W W' : World} {q : Nat} {o : Ob} {r m d : Value} (h : Sd w W q o r m d) (hb : Below W.heap.size W W') : Sd w W' q o r m d := ⟨h.low, h.box.below hb, h.ob.below hb, below_then h.acc hb⟩
theorem Sd.claim {w W : World} {q g cap : Nat} {limit n : Int} {r d : Value} (h : Sd w W q (oL limit n false) r (.slice (some ⟨g, 0, none⟩) 3 cap) d) :
    Sd w (W.setCell ⟨g, 9, none⟩ (.bool true)) q (oL limit n true) r (.slice (some ⟨g, 0, none⟩) 3 cap) d := by
  have hg := own_block (g := g) (cap := cap) (n := 3) h.ob.msgs
  have hqg : q ≠ g := fun e => own_ne_whole h.ob.msgs h.box (by decide) (by rw [e]; rfl)
  have hm := omsgs_set (g := g) (cap := cap) (L := [m1L, m2L n false, m3L]) h.ob.msgs 1 (show 1 < 3 by decide) 3 (by decide) (.bool true) (m2L n true) rfl
  refine ⟨h.low, h.box.other (show q ≠ g from hqg) (.bool true), ⟨own_setCell h.ob.rows ?_ _, hm, own_setCell h.ob.dead (h.ob.apart g rfl) _, h.ob.apart⟩, h.acc.setCell (show w.heap.size ≤ g by omega) _⟩
  exact fun e => own_ne_own h.ob.rows h.ob.msgs (by decide) g e rfl
theorem Sd.next {w W W' : World} {q : Nat} {o x : Ob} {r m d r' m' d' : Value} (h : Sd w W q o r m d) (hb : Below W.heap.size W W') (hx : OOb W' W.heap.size x r' m' d') :
    Sd w (set6 W' q (.string x.name) (.int .i64 x.kind) (.int .i64 x.limit) r' m' d') q x r' m' d' := by
  have hq := h.box.lt
  have hsz := h.acc.size
  have up := set6_upd W' q (.string x.name) (.int .i64 x.kind) (.int .i64 x.limit) r' m' d'
  have hl := h.low
  refine ⟨h.low, set6_whole _ _ _ _ _ _ (h.box.below hb), ⟨own_upd (own_mono hx.rows (by omega)) up (fun b e1 e2 => ?_), own_upd (own_mono hx.msgs (by omega)) up (fun b e1 e2 => ?_), own_upd (own_mono hx.dead (by omega)) up (fun b e1 e2 => ?_), hx.apart⟩, (below_then h.acc hb).trans (up.below (below_then h.acc hb).size (fun b e => by omega))⟩
  · have := (own_lt hx.rows e1).1; omega
  · have := (own_lt hx.msgs e1).1; omega
  · have := (own_lt hx.dead e1).1; omega
theorem Sd.start {w w1 : World} (hb : Below w.heap.size w w1) (limit : Int) :
    Sd w ((w1.alloc (.cells #[.int .i64 1, .int .i64 (-1), .int .i64 0, .bool false, .string ⟨#[]⟩, .string ⟨#[]⟩, .int .i64 2, .int .i64 0, .int .i64 0, .bool false, .string ⟨#[]⟩, .string ⟨#[]⟩, .int .i64 3, .int .i64 1, .int .i64 0, .bool false, .string ⟨#[]⟩, .string ⟨#[]⟩] 34)).alloc (.cells #[.string ⟨#[113]⟩, .int .i64 2, .int .i64 limit, .slice none 0 0, .slice (some ⟨w1.heap.size, 0, none⟩) 3 3, .slice none 0 0] 25)) (w1.heap.size + 1) (oL limit 0 false) (.slice none 0 0) (.slice (some ⟨w1.heap.size, 0, none⟩) 3 3) (.slice none 0 0) := by
  have hs := hb.size
  refine ⟨by omega, ?_, ⟨⟨rfl, .inl ⟨rfl, rfl⟩⟩, (own_lit rfl hs rfl (by decide)).alloc _, ⟨rfl, .inl ⟨rfl, rfl⟩⟩, fun b _ e => by cases e⟩, (hb.alloc hs _).alloc (by simp; omega) _⟩
  have := Whole.new (w1.alloc (.cells #[.int .i64 1, .int .i64 (-1), .int .i64 0, .bool false, .string ⟨#[]⟩, .string ⟨#[]⟩, .int .i64 2, .int .i64 0, .int .i64 0, .bool false, .string ⟨#[]⟩, .string ⟨#[]⟩, .int .i64 3, .int .i64 1, .int .i64 0, .bool false, .string ⟨#[]⟩, .string ⟨#[]⟩] 34)) 25 #[.string ⟨#[113]⟩, .int .i64 2, .int .i64 limit, .slice none 0 0, .slice (some ⟨w1.heap.size, 0, none⟩) 3 3, .slice none 0 0]
  rwa [show (w1.alloc _).heap.size = w1.heap.size + 1 by simp] at this
theorem cut_before {W w4 : World} {b : Obj} {x : Ob} {r m d : Value} (hb : Below (W.drew.alloc b).heap.size (W.drew.alloc b) w4) (n0 : Whole w4 W.heap.size 25 #[.string ⟨#[]⟩, .int .i64 0, .int .i64 0, .slice none 0 0, .slice none 0 0, .slice none 0 0]) (ho : OOb w4 (W.drew.alloc b).heap.size x r m d) :
    Below W.heap.size W (set6 w4 W.heap.size (.string x.name) (.int .i64 x.kind) (.int .i64 x.limit) r m d) ∧ Whole (set6 w4 W.heap.size (.string x.name) (.int .i64 x.kind) (.int .i64 x.limit) r m d) W.heap.size 25 (x.cells r m d) ∧ OOb (set6 w4 W.heap.size (.string x.name) (.int .i64 x.kind) (.int .i64 x.limit) r m d) W.heap.size x r m d := by
  have up := set6_upd w4 W.heap.size (.string x.name) (.int .i64 x.kind) (.int .i64 x.limit) r m d
  have hacc : Below W.heap.size W w4 := below_then ((Below.drew (Below.refl _ W)).alloc (Nat.le_refl _) b) hb
  have hsz : (W.drew.alloc b).heap.size = W.heap.size + 1 := by simp
  refine ⟨hacc.trans (up.below hacc.size (fun b e => by omega)), set6_whole _ _ _ _ _ _ n0, ⟨own_upd (own_mono ho.rows (by omega)) up (fun b e1 e2 => ?_), own_upd (own_mono ho.msgs (by omega)) up (fun b e1 e2 => ?_), own_upd (own_mono ho.dead (by omega)) up (fun b e1 e2 => ?_), ho.apart⟩⟩
  · have := (own_lt ho.rows e1).1; omega
  · have := (own_lt ho.msgs e1).1; omega
  · have := (own_lt ho.dead e1).1; omega
theorem cut_behind {W w4 : World} {x : Ob} {r m d : Value} (hb : Below W.drew.heap.size W.drew w4) (ho : OOb w4 W.drew.heap.size x r m d) :
    Below W.heap.size W (w4.alloc (.cells (x.cells r m d) 25)) ∧ Whole (w4.alloc (.cells (x.cells r m d) 25)) w4.heap.size 25 (x.cells r m d) ∧ OOb (w4.alloc (.cells (x.cells r m d) 25)) W.heap.size x r m d := by
  have hacc : Below W.heap.size W w4 := below_then (Below.drew (Below.refl _ W)) hb
  exact ⟨hacc.alloc hacc.size _, Whole.new w4 _ _, OOb.below ho ((Below.refl w4.heap.size w4).alloc (Nat.le_refl _) _)⟩
end Go.Proofs.Ytbckobclicogiaa
