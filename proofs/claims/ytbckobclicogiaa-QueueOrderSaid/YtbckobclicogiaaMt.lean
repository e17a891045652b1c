/-
  Messages: slices.Clone, slices.IndexFunc, queue.Find, posteref14.FindMsg, message.Tried, posteref14.Tried, slices.Delete, each by its contract.
-/
import Derived.Test.YtbckobclicogiaaMs
import Derived.Test.YtbckobclicogiaaSl4
import Derived.BigQuiet
import Derived.Shelf.Abstract
set_option linter.unusedVariables false
namespace Go.Proofs.Ytbckobclicogiaa
open Go.RowKit Go.Proofs.PosteMem

set_option maxHeartbeats 1000000 in
/-- slices.Clone of messages: the same, in a row of its own. -/
theorem cloneMsg (w : World) (v : Value) (L : List Msg) (hv : VMsgs w v L) (hn : L.length ≤ 1000000) :
    Calls Try.prog 52 #[v] w fun e w' => ∃ v', e = .returned v' ∧ OMsgs w' w.heap.size v' L ∧ Below w.heap.size w w' := by
  obtain ⟨i0, hi0, hz0, hz1, hz2⟩ := info_parts infoMsg
  unfold OMsgs
  have h1 := Msg.one L
  unfold VMsgs at hv
  generalize L.flatMap Msg.cells = xs at *
  generalize L.length = n at *
  obtain ⟨hl, A, cap, rfl, h2, h3, h4, h5⟩ := hv
  have hnil := fun (w : World) (a : Option Addr) (n c : Nat) => Lib.run_eql_slice_nil (P := Try.prog) w 23 34 a n c 0 0 Try.underlying23
  cases A with
  | none =>
    have hc := h4 rfl
    obtain rfl : n = 0 := by omega
    subst hc
    obtain rfl : xs = [] := List.eq_nil_of_length_eq_zero (by simpa using hl)
    go_enter Try.func52, Try.ntmps52
    go_wp2
    go_ret
    exact ⟨_, rfl, World.ownsRow_nil _ _ _ _, Below.refl _ _⟩
  | some a =>
    have hx : View (w.alloc (.cells #[] 34)) 6 (.slice (some a) n cap) n xs := View.alloc ⟨hl, some a, cap, rfl, h2, h3, h4, h5⟩ _
    go_enter Try.func52, Try.ntmps52
    go_wp2_with (at_builtin; refine wpList_append_view _ rfl (.tmp 5) (.tmp 6) _ rfl w.heap.size 34 i0 zMsg 6 64 Try.underlying23 hi0 hz0 hz1 hz2 rfl (by omega) (.slice (some ⟨w.heap.size, 0, none⟩) 0 0) 0 [] rfl (World.ownsRow_made _ _ _ (Nat.le_refl _) (by simp) rfl) (.slice (some a) n cap) n xs rfl hx h1 (by omega) (by simp only [maxLen] at *; omega) (by simp) ?_; intro v1 w1 hown hg hat)
    go_ret
    exact ⟨v1, rfl, by simpa using hown, ((Below.refl _ _).alloc (Nat.le_refl _) _).grown hg (by simp) (by simp [Value.ownBlock])⟩

/-- The first place of which p holds; -1: there is none. -/
def idxI (p : Msg → Bool) (L : List Msg) : Int := if L.findIdx p < L.length then L.findIdx p else -1
theorem idxI_at {p : Msg → Bool} {L : List Msg} {k : Nat} (hk : k < L.length) (h : p L[k] = true) (hn : ∀ j (hj : j < L.length), j < k → p L[j] = false) : idxI p L = k := by
  have e : L.findIdx p = k := by
    rw [List.findIdx_eq hk]
    exact ⟨h, fun j hj => hn j (by omega) hj⟩
  unfold idxI
  rw [e, if_pos hk]
theorem idxI_none {p : Msg → Bool} {L : List Msg} (hn : ∀ j (hj : j < L.length), p L[j] = false) : idxI p L = -1 := by
  have e : L.findIdx p = L.length := List.findIdx_eq_length.2 fun x hx => by
    obtain ⟨j, hj, rfl⟩ := List.getElem_of_mem hx
    exact hn j hj
  unfold idxI
  rw [e, if_neg (Nat.lt_irrefl _)]

set_option maxHeartbeats 2000000 in
theorem indexFunc_any (p : Msg → Bool) (g : Nat) (lb : Array Value) (eg : ∀ (args : Array Value) (w : World), (callFunc g args).run Try.prog w = .ok (.enter g args) w) (w : World) (v : Value) (L : List Msg) (hv : VMsgs w v L) (hm : L.length ≤ 1000000)
    (hp : ∀ (W : World) (x : Msg), Below w.heap.size w W → Calls Try.prog g (#[.agg x.cells.toArray] ++ lb) W fun e w' => e = .returned (.bool (p x)) ∧ Below w.heap.size w w') :
    Calls Try.prog 53 #[v, .func (.func g) #[] lb] w fun e w' => e = .returned (.int .i64 (idxI p L)) ∧ Below w.heap.size w w' := by
  obtain ⟨A, cap, rfl, hc, _⟩ := hv.cells
  replace hv := Lib.hid hv
  replace hp := Lib.hid hp
  go_enter Try.func53, Try.ntmps53
  go_wp2_with fail
  go_loopw [5, 8] (fun _ i wr => ∃ k : Nat, k ≤ L.length ∧ i = .int .i64 k ∧ (∀ j (hj : j < L.length), j < k → p L[j] = false) ∧ Below w.heap.size w wr) (fun _ i _ => L.length - (intOf i).toNat)
  case atStart => exact ⟨0, by omega, rfl, fun j _ h => by omega, Below.refl _ _⟩
  case round =>
    obtain ⟨k, hk, rfl, hall, hb⟩ := hrel
    replace hall := Lib.hid hall
    by_cases hlt : k < L.length
    · have q1 : (k : Int) < (L.length : Int) := by omega
      obtain ⟨b, off, cap', e, _, _, hbl, f⟩ := msgs_at (View.below hv.out hb) (by omega)
      injection e with e1 e2 e3
      subst e1 e3
      obtain ⟨p0, p1, p2, p3, p4, p5⟩ := f k hlt
      clear f
      have hst : p L[k] = false → ∀ j (hj : j < L.length), j < k + 1 → p L[j] = false := fun h9 j hj hjk => by
        rcases Nat.lt_or_ge j k with h8 | h8
        · exact hall.out j hj h8
        · obtain rfl : j = k := by omega
          exact h9
      have hhit : p L[k] = true → idxI p L = k := fun h9 => idxI_at hlt h9 hall.out
      replace hst := Lib.hid hst
      replace hhit := Lib.hid hhit
      generalize L[k] = x at *
      cases hq : p x with
      | true =>
        rw [hq] at hhit
        replace hq := Lib.hid hq
        go_wp2_with fail
        refine (hp.out _ x hb).mono ?_; rintro e w4 ⟨rfl, hb4⟩; rw [hq.out]
        go_wp2_with fail
        go_ret
        exact ⟨ret_int (hhit.out (by trivial)).symm, hb4⟩
      | false =>
        rw [hq] at hst
        replace hq := Lib.hid hq
        go_wp2_with fail
        refine (hp.out _ x hb).mono ?_; rintro e w4 ⟨rfl, hb4⟩; rw [hq.out]
        go_wp2_with fail
        go_roundw
        case rel => exact ⟨k + 1, by omega, by go_num, hst.out (by trivial), hb4⟩
        case measure => simp [intOf]; omega
    · go_wp2_with fail
      go_ret
      exact ⟨ret_int (idxI_none fun j hj => hall.out j hj (by omega)).symm, hb⟩

def byId (id : Int) (x : Msg) : Bool := decide (x.id = id)
set_option maxHeartbeats 2000000 in
theorem find_any (w : World) (v : Value) (L : List Msg) (id : Int) (hv : VMsgs w v L) (hm : L.length ≤ 1000000) :
    Calls Try.prog 37 #[v, .int .i64 id] w fun e w' => e = .returned (.int .i64 (idxI (byId id) L)) ∧ Below w.heap.size w w' := by
  have eg := Go.Proofs.enters_of Try.func60 (by kernel_rfl) rfl
  have hw := Whole.new w 3 #[.int .i64 id]
  have hcl : ∀ (W : World) (x : Msg), Below (w.alloc (.cells #[.int .i64 id] 3)).heap.size (w.alloc (.cells #[.int .i64 id] 3)) W → Calls Try.prog 60 (#[.agg x.cells.toArray] ++ #[.pointer (some ⟨w.heap.size, 0, none⟩)]) W fun e w' => e = .returned (.bool (byId id x)) ∧ Below (w.alloc (.cells #[.int .i64 id] 3)).heap.size (w.alloc (.cells #[.int .i64 id] 3)) w' := by
    intro W x hb
    have hc := (hw.below hb).cell 0
    have hlt : w.heap.size < W.heap.size := by have := hb.size; simp at this; omega
    have hb2 := hb.alloc hb.size (.cells x.cells.toArray 34)
    unfold Msg.cells at hb2 ⊢
    clear hb hw
    go_enter Try.func60, Try.ntmps60
    go_wp2
    go_ret
    exact ⟨rfl, hb2⟩
  have hb0 : Below w.heap.size w (w.alloc (.cells #[.int .i64 id] 3)) := (Below.refl _ _).alloc (Nat.le_refl _) _
  have hix := indexFunc_any (byId id) 60 #[.pointer (some ⟨w.heap.size, 0, none⟩)] eg (w.alloc (.cells #[.int .i64 id] 3)) v L (View.alloc hv _) hm hcl
  replace hix := Lib.hid hix
  clear hcl
  go_enter Try.func37, Try.ntmps37
  go_wp2_with (go_at_call 53; refine hix.out.mono ?_; rintro e w4 ⟨rfl, hb4⟩)
  go_ret
  exact ⟨rfl, below_then hb0 hb4⟩

set_option maxHeartbeats 2000000 in
theorem findMsg_any (w : World) (v : Value) (L : List Msg) (id : Int) (hv : VMsgs w v L) (hm : L.length ≤ 1000000) :
    Calls Try.prog 41 #[v, .int .i64 id] w fun e w' => e = .returned (.int .i64 (idxI (byId id) L)) ∧ w = w' := by
  obtain ⟨A, cap, rfl, hc, _⟩ := hv.cells
  replace hv := Lib.hid hv
  go_enter Try.func41, Try.ntmps41
  go_wp2_with fail
  go_loop [5] (fun i => ∃ k : Nat, k ≤ L.length ∧ i = .int .i64 k ∧ (∀ j (hj : j < L.length), j < k → byId id L[j] = false)) (fun i => L.length - (intOf i).toNat)
  case atStart => exact ⟨0, by omega, rfl, fun j _ h => by omega⟩
  case round =>
    obtain ⟨k, hk, rfl, hall⟩ := hrel
    replace hall := Lib.hid hall
    by_cases hlt : k < L.length
    · have q1 : (k : Int) < (L.length : Int) := by omega
      obtain ⟨b, off, cap', e, _, _, hbl, f⟩ := msgs_at hv.out (by omega)
      injection e with e1 e2 e3
      subst e1 e3
      obtain ⟨p0, _⟩ := f k hlt
      clear f
      have hst : L[k].id ≠ id → ∀ j (hj : j < L.length), j < k + 1 → byId id L[j] = false := fun h9 j hj hjk => by
        rcases Nat.lt_or_ge j k with h8 | h8
        · exact hall.out j hj h8
        · obtain rfl : j = k := by omega
          unfold byId
          exact decide_eq_false h9
      have hhit : L[k].id = id → idxI (byId id) L = k := fun h9 => idxI_at hlt (decide_eq_true h9) hall.out
      replace hst := Lib.hid hst
      replace hhit := Lib.hid hhit
      generalize L[k].id = x at *
      by_cases hq : x = id
      · subst hq
        go_wp2_with fail
        go_ret
        exact ⟨ret_int (hhit.out (by trivial)).symm, rfl⟩
      · have hq2 : (x == id) = false := beq_eq_false_iff_ne.2 hq
        go_wp2_with fail
        go_round
        case rel => exact ⟨k + 1, by omega, by go_num, hst.out hq⟩
        case measure => simp [intOf]; omega
    · go_wp2_with fail
      go_ret
      exact ⟨ret_int (idxI_none fun j hj => hall.out j hj (by omega)).symm, rfl⟩
end Go.Proofs.Ytbckobclicogiaa
