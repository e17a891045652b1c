/-
  dead.Free by its contract.
-/
import Derived.Test.YtbckobclicogiaaMy
import Derived.Test.YtbckobclicogiaaMv
import Derived.Test.YtbckobclicogiaaMu
import Derived.Deep.DrawnRows
import Derived.Deep.Cut
set_option linter.unusedVariables false
set_option linter.unusedSimpArgs false
namespace Go.Proofs.Ytbckobclicogiaa
open Go.RowKit Go.Proofs.PosteMem

theorem flatMap_set_one {α : Type} (f : α → List Value) (sz : Nat) (hf : ∀ x, (f x).length = sz) : ∀ (L : List α) (k : Nat) (hk : k < L.length) (j : Nat) (hj : j < sz) (u : Value) (y : α), f y = (f L[k]).set j u → (L.flatMap f).set (k * sz + j) u = (L.set k y).flatMap f
  | x :: L, 0, _, j, hj, u, y, h => by
    rw [Nat.zero_mul, Nat.zero_add, List.flatMap_cons, List.set_append_left _ _ (by rw [hf]; exact hj), List.set_cons_zero, List.flatMap_cons, h]
    rfl
  | x :: L, k + 1, hk, j, hj, u, y, h => by
    rw [List.flatMap_cons, List.set_append_right _ _ (by rw [hf, Nat.add_mul]; omega), hf, List.set_cons_succ, List.flatMap_cons, show (k + 1) * sz + j - sz = k * sz + j by rw [Nat.add_mul]; omega]
    rw [flatMap_set_one f sz hf L k (by simpa using hk) j hj u y h]
theorem omsgs_set {w : World} {B g cap : Nat} {L : List Msg} (h : OMsgs w B (.slice (some ⟨g, 0, none⟩) L.length cap) L) (k : Nat) (hk : k < L.length) (j : Nat) (hj : j < 6) (u : Value) (y : Msg) (hy : y.cells = (L[k].cells).set j u) :
    OMsgs (w.setCell ⟨g, k * 6 + j, none⟩ u) B (.slice (some ⟨g, 0, none⟩) L.length cap) (L.set k y) := by
  unfold OMsgs at h ⊢
  have h1 := own_set h (k * 6 + j) (by omega) u
  rw [flatMap_set_one Msg.cells 6 Msg.len L k hk j hj u y hy] at h1
  rw [List.length_set]
  exact h1

def Msg.free (x : Msg) : Msg := ⟨x.id, x.pri, x.retry, false, x.corr, x.body⟩
/-- The message of a number, if there is one, and its place. -/
inductive Place (L : List Msg) (id : Int) : Prop where
  | none (h : idxI (byId id) L = -1)
  | at (k : Nat) (hk : k < L.length) (h : idxI (byId id) L = k)
theorem place (L : List Msg) (id : Int) : Place L id := by
  by_cases h : L.findIdx (byId id) < L.length
  · exact .at _ h (by unfold idxI; rw [if_pos h])
  · exact .none (by unfold idxI; rw [if_neg h])
def freeAt (o : Ob) (k : Nat) (x : Msg) (tried : Bool) : Ob × Bool :=
  if x.claimed = false then (o, false)
  else if tried = false then (⟨o.name, o.kind, o.limit, o.rows, o.msgs.set k x.free, o.dead⟩, true)
  else if o.limit ≤ triedI x.retry then (⟨o.name, o.kind, o.limit, o.rows, o.msgs.eraseIdx k, o.dead ++ [triedM x]⟩, true)
  else (⟨o.name, o.kind, o.limit, o.rows, o.msgs.set k (triedM x), o.dead⟩, true)
def freeR (o : Ob) (id : Int) (tried : Bool) : Ob × Bool :=
  if h : o.msgs.findIdx (byId id) < o.msgs.length then freeAt o (o.msgs.findIdx (byId id)) (o.msgs[o.msgs.findIdx (byId id)]) tried else (o, false)
theorem freeR_none {o : Ob} {id : Int} {tried : Bool} (h : idxI (byId id) o.msgs = -1) : freeR o id tried = (o, false) := by
  unfold freeR
  rw [dif_neg]
  intro h1
  unfold idxI at h
  rw [if_pos h1] at h
  omega
theorem freeR_at {o : Ob} {id : Int} {tried : Bool} {k : Nat} (hk : k < o.msgs.length) (h : idxI (byId id) o.msgs = k) : freeR o id tried = freeAt o k o.msgs[k] tried := by
  unfold idxI at h
  split at h
  · rename_i h1
    have e : o.msgs.findIdx (byId id) = k := by omega
    unfold freeR
    rw [dif_pos h1]
    simp only [e]
  · omega

/-- The state of the walk: the object's box, the result's, the object's slices. -/
structure St (w W : World) (o : Ob) (r m d : Value) : Prop where
  box : Whole W w.heap.size 25 (o.cells r m d)
  res : Whole W (w.heap.size + 1) 25 #[.string ⟨#[]⟩, .int .i64 0, .int .i64 0, .slice none 0 0, .slice none 0 0, .slice none 0 0]
  ob : OOb W (w.heap.size + 2) o r m d
  acc : Below w.heap.size w W
theorem St.below {w W W' : World} {o : Ob} {r m d : Value} (h : St w W o r m d) (hb : Below W.heap.size W W') : St w W' o r m d := ⟨h.box.below hb, h.res.below hb, h.ob.below hb, below_then h.acc hb⟩
theorem st_begin {w W1 : World} {o : Ob} {r m d r' m' d' : Value}
    (hb1 : Below ((w.alloc (.cells (o.cells r m d) 25)).alloc (.cells #[.string ⟨#[]⟩, .int .i64 0, .int .i64 0, .slice none 0 0, .slice none 0 0, .slice none 0 0] 25)).heap.size ((w.alloc (.cells (o.cells r m d) 25)).alloc (.cells #[.string ⟨#[]⟩, .int .i64 0, .int .i64 0, .slice none 0 0, .slice none 0 0, .slice none 0 0] 25)) W1)
    (ho : OOb W1 ((w.alloc (.cells (o.cells r m d) 25)).alloc (.cells #[.string ⟨#[]⟩, .int .i64 0, .int .i64 0, .slice none 0 0, .slice none 0 0, .slice none 0 0] 25)).heap.size o r' m' d') :
    St w (set6 W1 w.heap.size (.string o.name) (.int .i64 o.kind) (.int .i64 o.limit) r' m' d') o r' m' d' := by
  have hsz : ((w.alloc (.cells (o.cells r m d) 25)).alloc (.cells #[.string ⟨#[]⟩, .int .i64 0, .int .i64 0, .slice none 0 0, .slice none 0 0, .slice none 0 0] 25)).heap.size = w.heap.size + 2 := by simp
  rw [hsz] at ho
  have x1 : Whole W1 w.heap.size _ _ := ((Whole.new w 25 (o.cells r m d)).alloc _).below hb1
  have x2 : Whole W1 (w.heap.size + 1) 25 #[.string ⟨#[]⟩, .int .i64 0, .int .i64 0, .slice none 0 0, .slice none 0 0, .slice none 0 0] := by
    have := (Whole.new (w.alloc (.cells (o.cells r m d) 25)) 25 #[.string ⟨#[]⟩, .int .i64 0, .int .i64 0, .slice none 0 0, .slice none 0 0, .slice none 0 0]).below hb1
    rwa [show (w.alloc (.cells (o.cells r m d) 25)).heap.size = w.heap.size + 1 by simp] at this
  have up := set6_upd W1 w.heap.size (.string o.name) (.int .i64 o.kind) (.int .i64 o.limit) r' m' d'
  have hacc : Below w.heap.size w W1 := below_then (by (refine upd_to_below ?_; repeat (first | exact Upd.refl _ _ | refine Upd.setCell ?_ (Or.inl (by simp)) _ | refine Upd.alloc ?_ _ | refine Upd.drewN ?_ _ | refine Upd.drew ?_))) hb1
  refine ⟨set6_whole _ _ _ _ _ _ x1, x2.upd up (by omega), ⟨own_upd ho.rows up (fun b hb e => ?_), own_upd ho.msgs up (fun b hb e => ?_), own_upd ho.dead up (fun b hb e => ?_), ho.apart⟩, hacc.trans (up.below hacc.size (fun b e => by omega))⟩
  · have := (own_lt ho.rows hb).1; omega
  · have := (own_lt ho.msgs hb).1; omega
  · have := (own_lt ho.dead hb).1; omega
theorem st_end {w W : World} {o : Ob} {r m d : Value} (h : St w W o r m d) : OOb (set6 W (w.heap.size + 1) (.string o.name) (.int .i64 o.kind) (.int .i64 o.limit) r m d) w.heap.size o r m d ∧ Below w.heap.size w (set6 W (w.heap.size + 1) (.string o.name) (.int .i64 o.kind) (.int .i64 o.limit) r m d) ∧
    Whole (set6 W (w.heap.size + 1) (.string o.name) (.int .i64 o.kind) (.int .i64 o.limit) r m d) (w.heap.size + 1) 25 (o.cells r m d) := by
  obtain ⟨h1, h2⟩ := clone_out h.ob (set6_upd W (w.heap.size + 1) (.string o.name) (.int .i64 o.kind) (.int .i64 o.limit) r m d) h.acc h.res.lt
  exact ⟨h1, h2, set6_whole _ _ _ _ _ _ h.res⟩

theorem St.msg {w W : World} {o : Ob} {r d : Value} {g cap : Nat} (h : St w W o r (.slice (some ⟨g, 0, none⟩) o.msgs.length cap) d) (k : Nat) (hk : k < o.msgs.length) (j : Nat) (hj : j < 6) (u : Value) (y : Msg) (hy : y.cells = (o.msgs[k].cells).set j u) :
    St w (W.setCell ⟨g, k * 6 + j, none⟩ u) ⟨o.name, o.kind, o.limit, o.rows, o.msgs.set k y, o.dead⟩ r (.slice (some ⟨g, 0, none⟩) o.msgs.length cap) d := by
  have hg := own_block h.ob.msgs
  refine ⟨h.box.other (show w.heap.size ≠ g by omega) u, h.res.other (show w.heap.size + 1 ≠ g by omega) u, ⟨own_setCell h.ob.rows ?_ u, omsgs_set h.ob.msgs k hk j hj u y hy, own_setCell h.ob.dead (h.ob.apart g rfl) u, h.ob.apart⟩, h.acc.setCell (show w.heap.size ≤ g by omega) u⟩
  exact fun e => own_ne_own h.ob.rows h.ob.msgs (by decide) g e rfl
theorem Ob.cells_eq {o o' : Ob} (h1 : o.name = o'.name) (h2 : o.kind = o'.kind) (h3 : o.limit = o'.limit) (r m d : Value) : o.cells r m d = o'.cells r m d := by
  unfold Ob.cells
  rw [h1, h2, h3]

def FreePost (w : World) (x : Ob × Bool) (e : Ending) (w' : World) : Prop := ∃ r' m' d', e = .returned (.tuple #[.agg (x.1.cells r' m' d'), .bool x.2]) ∧ OOb w' w.heap.size x.1 r' m' d' ∧ Below w.heap.size w w'

set_option maxRecDepth 100000 in
set_option maxHeartbeats 8000000 in
theorem free_none (w : World) (o : Ob) (r m d : Value) (id : Int) (tried : Bool) (h : VOb w o r m d) (hs : o.small) (hi : idxI (byId id) o.msgs = -1) :
    Calls Try.prog 13 #[.agg (o.cells r m d), .int .i64 id, .bool tried] w (FreePost w (o, false)) := by
  have k1 := Lib.hid (fun W (hb : Below w.heap.size w W) => clone_any W o r m d (VOb.below h hb) hs)
  have hs2 := hs.2.1
  clear h
  obtain ⟨name, kind, limit, R, M, D⟩ := o
  have hbeg := fun (W1 : World) (r' m' d' : Value) hb ho => st_begin (w := w) (W1 := W1) (o := ⟨name, kind, limit, R, M, D⟩) (r := r) (m := m) (d := d) (r' := r') (m' := m') (d' := d') hb ho
  replace hbeg := Lib.hid hbeg
  unfold Ob.cells at *
  simp only at *
  replace hi := Lib.hid hi
  go_enter Try.func13, Try.ntmps13
  (go_wp2_with fail; refine (k1.out _ (by (refine upd_to_below ?_; repeat (first | exact Upd.refl _ _ | refine Upd.setCell ?_ (Or.inl (by simp)) _ | refine Upd.alloc ?_ _ | refine Upd.drewN ?_ _ | refine Upd.drew ?_)))).mono ?_; rintro e W1 ⟨r', m', d', rfl, ho, hb1⟩; have st := hbeg.out _ _ _ _ hb1 ho; have hlt : w.heap.size + 2 ≤ W1.heap.size := (by have := hb1.size; simpa using this); have y1 : Whole W1 w.heap.size _ _ := ((Whole.new w 25 #[.string name, .int .i64 kind, .int .i64 limit, r, m, d]).alloc _).below hb1; have c0 := y1.cell 0; have c1 := y1.cell 1; have c2 := y1.cell 2; have c3 := y1.cell 3; have c4 := y1.cell 4; have c5 := y1.cell 5; have f0 := y1.frozen 0; have f1 := y1.frozen 1; have f2 := y1.frozen 2; have f3 := y1.frozen 3; have f4 := y1.frozen 4; have f5 := y1.frozen 5; obtain ⟨A1, n1, rfl, _, _, _⟩ := own_shape ho.rows; obtain ⟨A2, n2, rfl, _, _, _⟩ := own_shape ho.msgs; obtain ⟨A3, n3, rfl, _, _, _⟩ := own_shape ho.dead; clear ho hb1 y1; go_wp2_with fail; unfold set6 at st; generalize (((((W1.setCell ⟨w.heap.size, 0, none⟩ (.string name)).setCell ⟨w.heap.size, 1, none⟩ (.int .i64 kind)).setCell ⟨w.heap.size, 2, none⟩ (.int .i64 limit)).setCell ⟨w.heap.size, 3, none⟩ (.slice A1 R.length n1)).setCell ⟨w.heap.size, 4, none⟩ (.slice A2 M.length n2)).setCell ⟨w.heap.size, 5, none⟩ (.slice A3 D.length n3) = W2 at st ⊢; clear c0 c1 c2 c3 c4 c5 f0 f1 f2 f3 f4 f5 hlt; refine (find_any _ _ M id (View.of_own st.ob.msgs) hs2).mono ?_; rintro e W3 ⟨rfl, hb3⟩; rw [hi.out]; replace st := st.below hb3; clear hb3)
  (have c0 := st.box.cell 0; have c1 := st.box.cell 1; have c2 := st.box.cell 2; have c3 := st.box.cell 3; have c4 := st.box.cell 4; have c5 := st.box.cell 5; unfold Ob.cells at c0 c1 c2 c3 c4 c5)
  (have g0 := st.res.cell 0; have g1 := st.res.cell 1; have g2 := st.res.cell 2; have g3 := st.res.cell 3; have g4 := st.res.cell 4; have g5 := st.res.cell 5; have f0 := st.res.frozen 0; have f1 := st.res.frozen 1; have f2 := st.res.frozen 2; have f3 := st.res.frozen 3; have f4 := st.res.frozen 4; have f5 := st.res.frozen 5)
  obtain ⟨hf, hB, hx⟩ := st_end st
  replace hf := Lib.hid hf
  replace hB := Lib.hid hB
  replace hx := Lib.hid hx
  clear st
  go_wp2_with fail
  exact bodyPost_ret (results_cell_tmp_row rfl _ _ (w.heap.size + 1) _ _ _ _ rfl hx.out Try.underlying25 rfl (by kernel_rfl) _ rfl) rfl ⟨_, _, _, rfl, hf.out, hB.out⟩

set_option maxRecDepth 100000 in
set_option maxHeartbeats 8000000 in
theorem free_claimed (w : World) (o : Ob) (r m d : Value) (id : Int) (tried : Bool) (h : VOb w o r m d) (hs : o.small) (k : Nat) (hk : k < o.msgs.length) (hi : idxI (byId id) o.msgs = k) (hc : o.msgs[k].claimed = false) :
    Calls Try.prog 13 #[.agg (o.cells r m d), .int .i64 id, .bool tried] w (FreePost w (o, false)) := by
  have k1 := Lib.hid (fun W (hb : Below w.heap.size w W) => clone_any W o r m d (VOb.below h hb) hs)
  have hs2 := hs.2.1
  clear h
  obtain ⟨name, kind, limit, R, M, D⟩ := o
  have hbeg := fun (W1 : World) (r' m' d' : Value) hb ho => st_begin (w := w) (W1 := W1) (o := ⟨name, kind, limit, R, M, D⟩) (r := r) (m := m) (d := d) (r' := r') (m' := m') (d' := d') hb ho
  replace hbeg := Lib.hid hbeg
  unfold Ob.cells at *
  simp only at *
  replace hi := Lib.hid hi
  replace hk : k < M.length := hk
  replace hc : M[k].claimed = _ := hc
  clear hs
  go_enter Try.func13, Try.ntmps13
  (go_wp2_with fail; refine (k1.out _ (by (refine upd_to_below ?_; repeat (first | exact Upd.refl _ _ | refine Upd.setCell ?_ (Or.inl (by simp)) _ | refine Upd.alloc ?_ _ | refine Upd.drewN ?_ _ | refine Upd.drew ?_)))).mono ?_; rintro e W1 ⟨r', m', d', rfl, ho, hb1⟩; have st := hbeg.out _ _ _ _ hb1 ho; have hlt : w.heap.size + 2 ≤ W1.heap.size := (by have := hb1.size; simpa using this); have y1 : Whole W1 w.heap.size _ _ := ((Whole.new w 25 #[.string name, .int .i64 kind, .int .i64 limit, r, m, d]).alloc _).below hb1; have c0 := y1.cell 0; have c1 := y1.cell 1; have c2 := y1.cell 2; have c3 := y1.cell 3; have c4 := y1.cell 4; have c5 := y1.cell 5; have f0 := y1.frozen 0; have f1 := y1.frozen 1; have f2 := y1.frozen 2; have f3 := y1.frozen 3; have f4 := y1.frozen 4; have f5 := y1.frozen 5; obtain ⟨A1, n1, rfl, _, _, _⟩ := own_shape ho.rows; obtain ⟨A2, n2, rfl, _, _, _⟩ := own_shape ho.msgs; obtain ⟨A3, n3, rfl, _, _, _⟩ := own_shape ho.dead; clear ho hb1 y1; go_wp2_with fail; unfold set6 at st; generalize (((((W1.setCell ⟨w.heap.size, 0, none⟩ (.string name)).setCell ⟨w.heap.size, 1, none⟩ (.int .i64 kind)).setCell ⟨w.heap.size, 2, none⟩ (.int .i64 limit)).setCell ⟨w.heap.size, 3, none⟩ (.slice A1 R.length n1)).setCell ⟨w.heap.size, 4, none⟩ (.slice A2 M.length n2)).setCell ⟨w.heap.size, 5, none⟩ (.slice A3 D.length n3) = W2 at st ⊢; clear c0 c1 c2 c3 c4 c5 f0 f1 f2 f3 f4 f5 hlt; refine (find_any _ _ M id (View.of_own st.ob.msgs) hs2).mono ?_; rintro e W3 ⟨rfl, hb3⟩; rw [hi.out]; replace st := st.below hb3; clear hb3)
  have q1 : (k : Int) < (M.length : Int) := by omega
  obtain ⟨g, c, e1, _, _, _⟩ := own_some st.ob.msgs (show 0 < M.length by omega)
  injection e1 with e1 e2 e3
  subst e1 e3
  clear e2
  have p3 : W3.cell? ⟨g, k * 6 + 3, none⟩ = some (.bool M[k].claimed) := by
    obtain ⟨b, off, cap, e, _, _, _, f⟩ := msgs_at (View.of_own st.ob.msgs) (show 0 < M.length by omega)
    injection e with e1 e2 e3
    injection e1 with e1
    injection e1 with e4 e5 _
    subst e4 e5
    have := (f k hk).2.2.2.1
    rwa [Nat.zero_add] at this
  rw [hc] at p3
  (have c0 := st.box.cell 0; have c1 := st.box.cell 1; have c2 := st.box.cell 2; have c3 := st.box.cell 3; have c4 := st.box.cell 4; have c5 := st.box.cell 5; unfold Ob.cells at c0 c1 c2 c3 c4 c5)
  (have g0 := st.res.cell 0; have g1 := st.res.cell 1; have g2 := st.res.cell 2; have g3 := st.res.cell 3; have g4 := st.res.cell 4; have g5 := st.res.cell 5; have f0 := st.res.frozen 0; have f1 := st.res.frozen 1; have f2 := st.res.frozen 2; have f3 := st.res.frozen 3; have f4 := st.res.frozen 4; have f5 := st.res.frozen 5)
  obtain ⟨hf, hB, hx⟩ := st_end st
  replace hf := Lib.hid hf
  replace hB := Lib.hid hB
  replace hx := Lib.hid hx
  clear st hc
  go_wp2_with fail
  exact bodyPost_ret (results_cell_tmp_row rfl _ _ (w.heap.size + 1) _ _ _ _ rfl hx.out Try.underlying25 rfl (by kernel_rfl) _ rfl) rfl ⟨_, _, _, rfl, hf.out, hB.out⟩

set_option maxRecDepth 100000 in
set_option maxHeartbeats 8000000 in
theorem free_untried (w : World) (o : Ob) (r m d : Value) (id : Int) (h : VOb w o r m d) (hs : o.small) (k : Nat) (hk : k < o.msgs.length) (hi : idxI (byId id) o.msgs = k) (hc : o.msgs[k].claimed = true) :
    Calls Try.prog 13 #[.agg (o.cells r m d), .int .i64 id, .bool false] w (FreePost w (⟨o.name, o.kind, o.limit, o.rows, o.msgs.set k o.msgs[k].free, o.dead⟩, true)) := by
  have k1 := Lib.hid (fun W (hb : Below w.heap.size w W) => clone_any W o r m d (VOb.below h hb) hs)
  have hs2 := hs.2.1
  clear h
  obtain ⟨name, kind, limit, R, M, D⟩ := o
  have hbeg := fun (W1 : World) (r' m' d' : Value) hb ho => st_begin (w := w) (W1 := W1) (o := ⟨name, kind, limit, R, M, D⟩) (r := r) (m := m) (d := d) (r' := r') (m' := m') (d' := d') hb ho
  replace hbeg := Lib.hid hbeg
  unfold Ob.cells at *
  simp only at *
  replace hi := Lib.hid hi
  replace hk : k < M.length := hk
  replace hc : M[k].claimed = _ := hc
  clear hs
  go_enter Try.func13, Try.ntmps13
  (go_wp2_with fail; refine (k1.out _ (by (refine upd_to_below ?_; repeat (first | exact Upd.refl _ _ | refine Upd.setCell ?_ (Or.inl (by simp)) _ | refine Upd.alloc ?_ _ | refine Upd.drewN ?_ _ | refine Upd.drew ?_)))).mono ?_; rintro e W1 ⟨r', m', d', rfl, ho, hb1⟩; have st := hbeg.out _ _ _ _ hb1 ho; have hlt : w.heap.size + 2 ≤ W1.heap.size := (by have := hb1.size; simpa using this); have y1 : Whole W1 w.heap.size _ _ := ((Whole.new w 25 #[.string name, .int .i64 kind, .int .i64 limit, r, m, d]).alloc _).below hb1; have c0 := y1.cell 0; have c1 := y1.cell 1; have c2 := y1.cell 2; have c3 := y1.cell 3; have c4 := y1.cell 4; have c5 := y1.cell 5; have f0 := y1.frozen 0; have f1 := y1.frozen 1; have f2 := y1.frozen 2; have f3 := y1.frozen 3; have f4 := y1.frozen 4; have f5 := y1.frozen 5; obtain ⟨A1, n1, rfl, _, _, _⟩ := own_shape ho.rows; obtain ⟨A2, n2, rfl, _, _, _⟩ := own_shape ho.msgs; obtain ⟨A3, n3, rfl, _, _, _⟩ := own_shape ho.dead; clear ho hb1 y1; go_wp2_with fail; unfold set6 at st; generalize (((((W1.setCell ⟨w.heap.size, 0, none⟩ (.string name)).setCell ⟨w.heap.size, 1, none⟩ (.int .i64 kind)).setCell ⟨w.heap.size, 2, none⟩ (.int .i64 limit)).setCell ⟨w.heap.size, 3, none⟩ (.slice A1 R.length n1)).setCell ⟨w.heap.size, 4, none⟩ (.slice A2 M.length n2)).setCell ⟨w.heap.size, 5, none⟩ (.slice A3 D.length n3) = W2 at st ⊢; clear c0 c1 c2 c3 c4 c5 f0 f1 f2 f3 f4 f5 hlt; refine (find_any _ _ M id (View.of_own st.ob.msgs) hs2).mono ?_; rintro e W3 ⟨rfl, hb3⟩; rw [hi.out]; replace st := st.below hb3; clear hb3)
  have q1 : (k : Int) < (M.length : Int) := by omega
  obtain ⟨g, c, e1, _, _, _⟩ := own_some st.ob.msgs (show 0 < M.length by omega)
  injection e1 with e1 e2 e3
  subst e1 e3
  clear e2
  have p3 : W3.cell? ⟨g, k * 6 + 3, none⟩ = some (.bool M[k].claimed) := by
    obtain ⟨b, off, cap, e, _, _, _, f⟩ := msgs_at (View.of_own st.ob.msgs) (show 0 < M.length by omega)
    injection e with e1 e2 e3
    injection e1 with e1
    injection e1 with e4 e5 _
    subst e4 e5
    have := (f k hk).2.2.2.1
    rwa [Nat.zero_add] at this
  rw [hc] at p3
  have p4 := own_free st.ob.msgs (k * 6 + 3)
  have st0 := st
  have c4 := st.box.cell 4
  unfold Ob.cells at c4
  replace st := st.msg k hk 3 (by decide) (.bool false) M[k].free rfl
  replace st := Lib.hid st
  replace st0 := Lib.hid st0
  clear hc
  go_upto_region 7 with fail
  clear c4 p3 p4
  replace st := st.out
  generalize W3.setCell ⟨g, k * 6 + 3, none⟩ (.bool false) = W4 at st ⊢
  (have c0 := st.box.cell 0; have c1 := st.box.cell 1; have c2 := st.box.cell 2; have c3 := st.box.cell 3; have c4 := st.box.cell 4; have c5 := st.box.cell 5; unfold Ob.cells at c0 c1 c2 c3 c4 c5)
  (have g0 := st.res.cell 0; have g1 := st.res.cell 1; have g2 := st.res.cell 2; have g3 := st.res.cell 3; have g4 := st.res.cell 4; have g5 := st.res.cell 5; have f0 := st.res.frozen 0; have f1 := st.res.frozen 1; have f2 := st.res.frozen 2; have f3 := st.res.frozen 3; have f4 := st.res.frozen 4; have f5 := st.res.frozen 5)
  obtain ⟨hf, hB, hx⟩ := st_end st
  replace hf := Lib.hid hf
  replace hB := Lib.hid hB
  replace hx := Lib.hid hx
  clear st st0
  go_wp2_with fail
  exact bodyPost_ret (results_cell_tmp_row rfl _ _ (w.heap.size + 1) _ _ _ _ rfl hx.out Try.underlying25 rfl (by kernel_rfl) _ rfl) rfl ⟨_, _, _, rfl, hf.out, hB.out⟩
end Go.Proofs.Ytbckobclicogiaa
