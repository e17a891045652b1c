/-
  Requests: session.Wants by its contract.
-/
import Derived.Test.YtbckobclicogiaaSg
import Derived.Test.YtbckobclicogiaaSl3
import Derived.Deep.LoopGhost
import Derived.IntWalk
namespace Go.Proofs.Ytbckobclicogiaa
open Go.RowKit Go.Proofs.PosteMem

structure Want where
  deep : Int
  obj : ByteArray
  row : ByteArray
  mode : Int
def Want.cells (x : Want) : List Value := [.int .i64 x.deep, .string x.obj, .string x.row, .int .i64 x.mode]
theorem Want.len (x : Want) : x.cells.length = 4 := rfl
theorem Want.one (L : List Want) : ∀ u ∈ L.flatMap Want.cells, u.oneCell' = true := by
  intro u hu
  obtain ⟨x, _, hx⟩ := List.mem_flatMap.1 hu
  simp only [Want.cells, List.mem_cons, List.not_mem_nil, or_false] at hx
  rcases hx with rfl | rfl | rfl | rfl <;> rfl
def zWant : Value := .agg #[.int .i64 0, .string ⟨#[]⟩, .string ⟨#[]⟩, .int .i64 0]
theorem infoWant : (Try.prog.info? 50).map (fun i => (i.zero, i.size, i.bytes)) = some (some zWant, 4, 48) := by kernel_rfl
def OWants (w : World) (B : Nat) (v : Value) (L : List Want) : Prop := w.ownsRow B 50 4 v L.length (L.flatMap Want.cells)
theorem wants_snoc {w : World} {B : Nat} {v : Value} {M : List Want} {x : Want} (h : w.ownsRow B 50 4 v (M.length + 1) (M.flatMap Want.cells ++ x.cells)) : OWants w B v (M ++ [x]) := by
  unfold OWants
  rw [List.length_append, List.length_singleton, List.flatMap_append, List.flatMap_cons, List.flatMap_nil, List.append_nil]
  exact h
def nm (q : Req) : Nat → Int → Want
  | 0, m => ⟨0, ⟨#[]⟩, ⟨#[]⟩, m⟩
  | 1, m => ⟨1, q.name, ⟨#[]⟩, m⟩
  | _, m => ⟨2, q.name, q.key, m⟩
def wantsOf (q : Req) (ms : List Int) : List Want := ms.mapIdx (nm q)
theorem wantsOf_len (q : Req) (ms : List Int) : (wantsOf q ms).length = ms.length := by simp [wantsOf]

set_option maxRecDepth 100000 in
set_option maxHeartbeats 8000000 in
theorem wants_any (w : World) (q : Req) (b off c : Nat) (ms : List Int) (hn : 0 < ms.length ∧ ms.length ≤ 3) (hv : View w 1 (.slice (some ⟨b, off, none⟩) ms.length c) ms.length (ms.map fun m => Value.int .i64 m)) :
    Calls Try.prog 51 #[q.val, .slice (some ⟨b, off, none⟩) ms.length c] w fun e w' => ∃ v', e = .returned v' ∧ OWants w' w.heap.size v' (wantsOf q ms) ∧ Below w.heap.size w w' := by
  obtain ⟨i0, hi0, hz0, hz1, hz2⟩ := info_parts infoWant
  obtain ⟨_, _, _, e0, _, _, hbl, hcc⟩ := hv.at_ (by omega)
  injection e0 with e1 e2 e3
  injection e1 with e1
  injection e1 with e4 e5 _
  subst e4 e5 e3
  have hcc : ∀ (j : Nat) (h : j < ms.length), w.cell? ⟨b, off + j, none⟩ = some (.int .i64 ms[j]) := fun j h => hcc j _ (by rw [List.getElem?_map, List.getElem?_eq_getElem h]; rfl)
  replace hcc := Lib.hid hcc
  clear hv
  obtain ⟨kind, name, key, value, n, pri⟩ := q
  have hwl := Lib.hid (wantsOf_len ⟨kind, name, key, value, n, pri⟩ ms)
  have hwk : ∀ k (h : k < ms.length), (wantsOf ⟨kind, name, key, value, n, pri⟩ ms).take (k + 1) = (wantsOf ⟨kind, name, key, value, n, pri⟩ ms).take k ++ [nm ⟨kind, name, key, value, n, pri⟩ k ms[k]] := fun k h => by
    rw [List.take_succ_eq_append_getElem (by rw [wantsOf_len]; exact h)]
    simp [wantsOf]
  replace hwk := Lib.hid hwk
  generalize hW : wantsOf ⟨kind, name, key, value, n, pri⟩ ms = W at *
  replace hW := Lib.hid hW
  unfold Req.val
  go_enter Try.func51, Try.ntmps51
  go_wp2_with fail
  have hbx := (Whole.new (w.alloc (.cells #[.int .i64 kind, .string name, .string key, .string value, .int .i64 n, .int .i64 pri] 38)) 48 #[.int .i64 0, .string ⟨#[]⟩, .string ⟨#[]⟩, .int .i64 1, .string name, .string ⟨#[]⟩, .int .i64 2, .string name, .string key])
  rw [show (w.alloc (.cells #[.int .i64 kind, .string name, .string key, .string value, .int .i64 n, .int .i64 pri] 38)).heap.size = w.heap.size + 1 by simp] at hbx
  have hb0 : Below w.heap.size w ((w.alloc (.cells #[.int .i64 kind, .string name, .string key, .string value, .int .i64 n, .int .i64 pri] 38)).alloc (.cells #[.int .i64 0, .string ⟨#[]⟩, .string ⟨#[]⟩, .int .i64 1, .string name, .string ⟨#[]⟩, .int .i64 2, .string name, .string key] 48)) := by (refine upd_to_below ?_; repeat (first | exact Upd.refl _ _ | refine Upd.setCell ?_ (Or.inl (by simp)) _ | refine Upd.alloc ?_ _ | refine Upd.drewN ?_ _ | refine Upd.drew ?_))
  generalize (w.alloc (.cells #[.int .i64 kind, .string name, .string key, .string value, .int .i64 n, .int .i64 pri] 38)).alloc (.cells #[.int .i64 0, .string ⟨#[]⟩, .string ⟨#[]⟩, .int .i64 1, .string name, .string ⟨#[]⟩, .int .i64 2, .string name, .string key] 48) = ws at hbx hb0 ⊢
  go_loopw [6, 21] (fun o i wr => ∃ k : Nat, k ≤ ms.length ∧ i = .int .i64 k ∧ OWants wr w.heap.size o (W.take k) ∧ Below w.heap.size w wr ∧ Whole wr (w.heap.size + 1) 48 #[.int .i64 0, .string ⟨#[]⟩, .string ⟨#[]⟩, .int .i64 1, .string name, .string ⟨#[]⟩, .int .i64 2, .string name, .string key]) (fun _ i _ => ms.length - (intOf i).toNat)
  case atStart => exact ⟨0, by omega, rfl, World.ownsRow_nil _ _ _ _, hb0, hbx⟩
  case round =>
    clear hb0 hbx
    obtain ⟨k, hk, rfl, ho, hb, hbx⟩ := hrel
    by_cases hlt : k < ms.length
    · have q1 : (k : Int) < (ms.length : Int) := by omega
      have ck := (hb.cell (p := ⟨b, off + k, none⟩) hbl).trans (hcc.out k hlt)
      have hxk := Lib.hid (hwk.out k hlt)
      generalize ms[k] = m at ck hxk
      have hwt : (W.take k).length = k := by rw [List.length_take, hwl.out]; omega
      replace hwt := Lib.hid hwt
      have n0 := hbx.cell 0
      have n1 := hbx.cell 1
      have n2 := hbx.cell 2
      have n3 := hbx.cell 3
      have n4 := hbx.cell 4
      have n5 := hbx.cell 5
      have n6 := hbx.cell 6
      have n7 := hbx.cell 7
      have n8 := hbx.cell 8
      have hbs := hb.size
      have hwk2 : (W.take k).length ≤ 3 := by rw [hwt.out]; omega
      obtain ⟨k3, hk3⟩ : ∃ x : Want, x = nm ⟨kind, name, key, value, n, pri⟩ k m := ⟨_, rfl⟩
      have hvx := View.boxAt (sz := 4) wr k3.cells 50 _ rfl rfl
      have ho2 := own_below ho ((Below.refl _ _).alloc (Nat.le_refl _) (.cells k3.cells.toArray 50))
      have hbb := hb.alloc hb.size (.cells k3.cells.toArray 50)
      have hbx2 := hbx.alloc (.cells k3.cells.toArray 50)
      rw [← hk3] at hxk
      have hcase : k = 0 ∨ k = 1 ∨ k = 2 := by omega
      rcases hcase with rfl | rfl | rfl
      all_goals
        try rw [Nat.add_zero] at ck
        subst hk3
        unfold Want.cells at hvx ho2 hbb hbx2
        simp only [nm] at hvx ho2 hbb hbx2 hxk
        go_wp2_with (at_builtin; refine wpList_append_view _ rfl (.tmp 26) (.tmp 33) _ rfl w.heap.size 50 i0 zWant 4 48 Try.underlying44 hi0 hz0 hz1 hz2 rfl (by decide) _ (W.take _).length _ rfl ho2 _ 1 _ rfl hvx (by intro u hu; simp only [List.mem_cons, List.not_mem_nil, or_false] at hu; rcases hu with rfl | rfl | rfl | rfl <;> rfl) (by omega) (by simp only [maxLen]; omega) (by simp; omega) ?_; intro v3 w3 hown hg hat)
        go_roundw
        case rel =>
          refine ⟨_, hlt, by go_num, ?_, hbb.trans ((Upd.of_grown (S := fun b => u6.ownBlock = some b) hg (fun _ h => h)).below hbb.size (fun b he => (ho.lt b he).1)), hbx2.grown hg (own_ne_whole ho hbx (by decide))⟩
          rw [hxk.out]
          exact wants_snoc hown
        case measure => simp [intOf]; omega
    · obtain rfl : k = ms.length := by omega
      have q1 : ¬ (ms.length : Int) < (ms.length : Int) := by omega
      have e : W.take ms.length = W := List.take_of_length_le (by rw [hwl.out]; exact Nat.le_refl _)
      rw [e] at ho
      clear e
      go_wp2
      go_ret
      exact ⟨_, rfl, ho, hb⟩
end Go.Proofs.Ytbckobclicogiaa
