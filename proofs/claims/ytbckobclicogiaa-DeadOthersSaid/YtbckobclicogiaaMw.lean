/-
  Messages: posteref14.SameMsgs and SameObject; objects.
-/
import Derived.Test.YtbckobclicogiaaMt
import Derived.Test.YtbckobclicogiaaRb
set_option linter.unusedVariables false
namespace Go.Proofs.Ytbckobclicogiaa
open Go.RowKit Go.Proofs.PosteMem

set_option maxHeartbeats 2000000 in
theorem same_msgs (w : World) (v1 v2 : Value) (L : List Msg) (h1 : VMsgs w v1 L) (h2 : VMsgs w v2 L) (hm : L.length ≤ 1000000) :
    Calls Try.prog 44 #[v1, v2] w fun e w' => e = .returned (.bool true) ∧ Same w w' := by
  by_cases h0 : L.length = 0
  · obtain ⟨A1, c1, rfl, _, _⟩ := h1.cells
    obtain ⟨A2, c2, rfl, _, _⟩ := h2.cells
    rw [h0]
    go_enter Try.func44, Try.ntmps44
    go_wp2_with fail
    go_rounds 1
    go_ret
    exact ⟨rfl, Same.refl _⟩
  · obtain ⟨b1, o1, c1, rfl, l1, m1, _, f1⟩ := msgs_at h1 (by omega)
    obtain ⟨b2, o2, c2, rfl, l2, m2, _, f2⟩ := msgs_at h2 (by omega)
    clear h1 h2
    replace f1 := Lib.hid f1
    replace f2 := Lib.hid f2
    go_enter Try.func44, Try.ntmps44
    go_wp2_with fail
    go_loopw [5] (fun i wr => ∃ k : Nat, k ≤ L.length ∧ i = .int .i64 k ∧ Same w wr) (fun i _ => L.length - (intOf i).toNat)
    case atStart => exact ⟨0, by omega, rfl, 0, rfl⟩
    case round =>
      obtain ⟨k, hk, rfl, m, rfl⟩ := hrel
      by_cases hlt : k < L.length
      · have q1 : (k : Int) < (L.length : Int) := by omega
        obtain ⟨p0, p1, p2, p3, p4, p5⟩ := f1.out k hlt
        obtain ⟨r0, r1, r2, r3, r4, r5⟩ := f2.out k hlt
        generalize L[k] = x at *
        go_wp2_with fail
        go_quiet (fail)
        go_wp2_with fail
        go_roundw
        case rel => exact ⟨k + 1, by omega, by go_num, _, rfl⟩
        case measure => simp [intOf]; omega
      · go_wp2_with fail
        go_ret
        exact ⟨rfl, m, rfl⟩

/-- An object of api. -/
structure Ob where
  name : ByteArray
  kind : Int
  limit : Int
  rows : List Row
  msgs : List Msg
  dead : List Msg
/-- Its cells, the slices' values beside. -/
def Ob.cells (o : Ob) (r m d : Value) : Array Value := #[.string o.name, .int .i64 o.kind, .int .i64 o.limit, r, m, d]
/-- An object that is read. -/
structure VOb (w : World) (o : Ob) (r m d : Value) : Prop where
  rows : VRows w r o.rows
  msgs : VMsgs w m o.msgs
  dead : VMsgs w d o.dead
/-- An object whose slices are the call's own. -/
structure OOb (w : World) (B : Nat) (o : Ob) (r m d : Value) : Prop where
  rows : ORows w B r o.rows
  msgs : OMsgs w B m o.msgs
  dead : OMsgs w B d o.dead
  apart : ∀ b, m.ownBlock = some b → d.ownBlock ≠ some b
theorem OOb.view {w : World} {B : Nat} {o : Ob} {r m d : Value} (h : OOb w B o r m d) : VOb w o r m d := ⟨View.of_own h.rows, View.of_own h.msgs, View.of_own h.dead⟩
theorem VOb.below {w w' : World} {o : Ob} {r m d : Value} (h : VOb w o r m d) (hb : Below w.heap.size w w') : VOb w' o r m d := ⟨View.below h.rows hb, View.below h.msgs hb, View.below h.dead hb⟩
theorem OOb.below {w w' : World} {B : Nat} {o : Ob} {r m d : Value} (h : OOb w B o r m d) (hb : Below w.heap.size w w') : OOb w' B o r m d := ⟨own_below h.rows hb, own_below h.msgs hb, own_below h.dead hb, h.apart⟩
def Ob.small (o : Ob) : Prop := o.rows.length ≤ 1000000 ∧ o.msgs.length ≤ 1000000 ∧ o.dead.length ≤ 1000000

set_option maxRecDepth 100000 in
set_option maxHeartbeats 8000000 in
theorem same_object (w : World) (o : Ob) (r1 m1 d1 r2 m2 d2 : Value) (h1 : VOb w o r1 m1 d1) (h2 : VOb w o r2 m2 d2) (hs : o.small) :
    Calls Try.prog 15 #[.agg (o.cells r1 m1 d1), .agg (o.cells r2 m2 d2)] w fun e w' => e = .returned (.bool true) ∧ Below w.heap.size w w' := by
  obtain ⟨s1, s2, s3⟩ := hs
  have k1 := Lib.hid (fun W (hb : Below w.heap.size w W) => same_rows W r1 r2 o.rows (View.below h1.rows hb) (View.below h2.rows hb) s1)
  have k2 := Lib.hid (fun W (hb : Below w.heap.size w W) => same_msgs W m1 m2 o.msgs (View.below h1.msgs hb) (View.below h2.msgs hb) s2)
  have k3 := Lib.hid (fun W (hb : Below w.heap.size w W) => same_msgs W d1 d2 o.dead (View.below h1.dead hb) (View.below h2.dead hb) s3)
  clear h1 h2
  obtain ⟨name, kind, limit, R, M, D⟩ := o
  unfold Ob.cells
  simp only
  go_enter Try.func15, Try.ntmps15
  go_wp2_with fail
  refine (k1.out _ (by (refine upd_to_below ?_; repeat (first | exact Upd.refl _ _ | refine Upd.setCell ?_ (Or.inl (by simp)) _ | refine Upd.alloc ?_ _ | refine Upd.drewN ?_ _ | refine Upd.drew ?_)))).mono ?_; rintro e w1 ⟨rfl, n1, rfl⟩
  go_wp2_with fail
  refine (k2.out _ (by (refine upd_to_below ?_; repeat (first | exact Upd.refl _ _ | refine Upd.setCell ?_ (Or.inl (by simp)) _ | refine Upd.alloc ?_ _ | refine Upd.drewN ?_ _ | refine Upd.drew ?_)))).mono ?_; rintro e w2 ⟨rfl, n2, rfl⟩
  go_wp2_with fail
  refine (k3.out _ (by (refine upd_to_below ?_; repeat (first | exact Upd.refl _ _ | refine Upd.setCell ?_ (Or.inl (by simp)) _ | refine Upd.alloc ?_ _ | refine Upd.drewN ?_ _ | refine Upd.drew ?_)))).mono ?_; rintro e w3 ⟨rfl, n3, rfl⟩
  go_wp2
  go_ret
  exact ⟨rfl, by (refine upd_to_below ?_; repeat (first | exact Upd.refl _ _ | refine Upd.setCell ?_ (Or.inl (by simp)) _ | refine Upd.alloc ?_ _ | refine Upd.drewN ?_ _ | refine Upd.drew ?_))⟩
end Go.Proofs.Ytbckobclicogiaa
