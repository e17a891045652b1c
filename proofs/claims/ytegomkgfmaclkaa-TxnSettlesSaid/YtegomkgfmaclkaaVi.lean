/-
  posteref14.name, kind, RightRow, RightMsg, messages, posteref1.Msgs, posteref14.FindMsg, RisesMsgs, total: each by its contract.
-/
import Derived.Test.YtegomkgfmaclkaaVa
import Derived.Test.YtegomkgfmaclkaaRs
import Derived.Test.YtegomkgfmaclkaaSl5
import Derived.Test.YtegomkgfmaclkaaTill
import Derived.BigQuiet
import Derived.Deep.DeepCutAuto
set_option linter.unusedVariables false
set_option linter.unusedSimpArgs false
namespace Go.Proofs.Ytegomkgfmaclkaa
open Go.RowKit Go.Proofs.PosteOrd Go.Proofs.PosteMem

def nameB (s : ByteArray) : Bool := decide (1 ≤ s.size) && decide (s.size ≤ 16)
def kindB (k l : Int) : Bool := (decide (k = 1) && decide (l = 0)) || (decide (k = 2) && decide (1 ≤ l) && decide (l ≤ 1000))
set_option maxHeartbeats 1000000 in
theorem name_any (w : World) (k : ByteArray) : Calls Try.prog 64 #[.string k] w fun e w' => e = .returned (.bool (nameB k)) ∧ w = w' := by
  unfold nameB
  go_enter Try.func64, Try.ntmps64
  go_wp2
  all_goals
    go_ret
    refine ⟨ret_bool ?_, rfl⟩
    rw [Bool.eq_iff_iff]
    simp only [Bool.and_eq_true, decide_eq_true_eq, Bool.false_eq_true, false_iff]
    omega
set_option maxHeartbeats 2000000 in
theorem kind_any (w : World) (k l : Int) : Calls Try.prog 65 #[.int .i64 k, .int .i64 l] w fun e w' => e = .returned (.bool (kindB k l)) ∧ w = w' := by
  unfold kindB
  by_cases h1 : k = 1
  · subst h1
    by_cases h2 : l = 0
    · subst h2
      go_enter Try.func65, Try.ntmps65
      go_wp2
      go_ret
      exact ⟨rfl, rfl⟩
    · have h2' : (l == 0) = false := beq_eq_false_iff_ne.2 h2
      rw [decide_eq_false h2]
      go_enter Try.func65, Try.ntmps65
      go_wp2
      go_ret
      exact ⟨ret_bool (by simp [h2]), rfl⟩
  · have h1' : (k == 1) = false := beq_eq_false_iff_ne.2 h1
    rw [decide_eq_false h1]
    by_cases h2 : k = 2
    · subst h2
      go_enter Try.func65, Try.ntmps65
      go_wp2
      all_goals
        go_ret
        refine ⟨ret_bool ?_, rfl⟩
        first | (simp [*]; done) | (simp [*]; omega) | (rw [Bool.eq_iff_iff]; simp; omega)
    · have h2' : (k == 2) = false := beq_eq_false_iff_ne.2 h2
      rw [decide_eq_false h2]
      go_enter Try.func65, Try.ntmps65
      go_wp2
      go_ret
      exact ⟨ret_bool (by simp [h1, h2]), rfl⟩
set_option maxHeartbeats 1000000 in
theorem rightRow_any (w : World) (x : Row) : Calls Try.prog 68 #[.agg #[.string x.key, .string x.val]] w fun e w' => e = .returned (.bool (rightB x)) ∧ Below w.heap.size w w' := by
  have hb := Lib.hid ((Below.refl w.heap.size w).alloc (Nat.le_refl _) (.cells #[.string x.key, .string x.val] 31))
  unfold rightB keyB
  go_enter Try.func68, Try.ntmps68
  go_wp2
  all_goals
    go_ret
    refine ⟨ret_bool ?_, hb.out⟩
    first | (simp [*]; done) | (simp [*]; omega) | (rw [Bool.eq_iff_iff]; simp; omega)
def msgB (m : Msg) : Bool := decide (1 ≤ m.id) && decide (m.id ≤ 1099511627776) && decide (-1000 ≤ m.pri) && decide (m.pri ≤ 1000) && decide (0 ≤ m.retry) && decide (m.retry ≤ 1000) && decide (m.corr.size ≤ 40) && decide (m.body.size ≤ 100)
set_option maxHeartbeats 4000000 in
theorem rightMsg_any (w : World) (x : Msg) : Calls Try.prog 70 #[.agg x.cells.toArray] w fun e w' => e = .returned (.bool (msgB x)) ∧ Below w.heap.size w w' := by
  obtain ⟨i1, p1, r1, c1, a1, b1⟩ := x
  have hb := Lib.hid ((Below.refl w.heap.size w).alloc (Nat.le_refl _) (.cells #[.int .i64 i1, .int .i64 p1, .int .i64 r1, .bool c1, .string a1, .string b1] 48))
  unfold msgB Msg.cells
  simp only
  go_enter Try.func70, Try.ntmps70
  go_wp2
  all_goals
    go_ret
    refine ⟨ret_bool ?_, hb.out⟩
    first | (simp [*]; done) | (simp [*]; omega) | (rw [Bool.eq_iff_iff]; simp; omega)
def msgOk (next : Int) (dead : Bool) (m : Msg) : Bool := msgB m && decide (m.id < next) && !(dead && m.claimed)
def msgsB (next : Int) (dead : Bool) (L : List Msg) : Bool := L.all (msgOk next dead)
theorem all_no {α : Type} {p : α → Bool} {L : List α} {k : Nat} (hk : k < L.length) (h : p L[k] = false) : L.all p = false := by
  rw [List.all_eq_false]
  exact ⟨L[k], List.getElem_mem hk, by rw [h]; decide⟩
theorem all_yes {α : Type} {p : α → Bool} {L : List α} (h : ∀ j (hj : j < L.length), p L[j] = true) : L.all p = true := by
  rw [List.all_eq_true]
  intro x hx
  obtain ⟨j, hj, rfl⟩ := List.getElem_of_mem hx
  exact h j hj
set_option maxHeartbeats 4000000 in
theorem messages_any (w : World) (v : Value) (L : List Msg) (next : Int) (dead : Bool) (h : VMsgs w v L) (hm : L.length ≤ 1000000) :
    Calls Try.prog 67 #[v, .int .i64 next, .bool dead] w fun e w' => e = .returned (.bool (msgsB next dead L)) ∧ Below w.heap.size w w' := by
  obtain ⟨A, cap, rfl, hc, _⟩ := h.cells
  replace h := Lib.hid h
  go_enter Try.func67, Try.ntmps67
  go_wp2_with fail
  go_loopw [7] (fun i wr => ∃ k : Nat, k ≤ L.length ∧ i = .int .i64 k ∧ (∀ j (hj : j < L.length), j < k → msgOk next dead L[j] = true) ∧ Below w.heap.size w wr) (fun i _ => L.length - (intOf i).toNat)
  case atStart => exact ⟨0, by omega, rfl, fun j _ h => by omega, Below.refl _ _⟩
  case round =>
    obtain ⟨k, hk, rfl, hall, hb⟩ := hrel
    replace hall := Lib.hid hall
    by_cases hlt : k < L.length
    · have q1 : (k : Int) < (L.length : Int) := by omega
      obtain ⟨b, off, cap', e, _, _, hbl, f⟩ := msgs_at (View.below h.out hb) (by omega)
      injection e with e1 e2 e3
      subst e1 e3
      obtain ⟨p0, p1, p2, p3, p4, p5⟩ := f k hlt
      clear f
      have hst : msgOk next dead L[k] = true → ∀ j (hj : j < L.length), j < k + 1 → msgOk next dead L[j] = true := fun h9 j hj hjk => by
        rcases Nat.lt_or_ge j k with h8 | h8
        · exact hall.out j hj h8
        · obtain rfl : j = k := by omega
          exact h9
      have hno : msgOk next dead L[k] = false → msgsB next dead L = false := fun h9 => all_no hlt h9
      replace hst := Lib.hid hst
      replace hno := Lib.hid hno
      have kM := fun (W : World) => rightMsg_any W L[k]
      generalize L[k] = x at *
      obtain ⟨i1, p1', r1, c1, a1, b1⟩ := x
      simp only at p0 p1 p2 p3 p4 p5
      generalize hmb : msgB ⟨i1, p1', r1, c1, a1, b1⟩ = mb at *
      unfold msgOk at hst hno
      rw [hmb] at hst hno
      replace kM := Lib.hid kM
      replace hmb := Lib.hid hmb
      cases mb with
      | false =>
        go_wp2_with (go_at_call 70; refine (kM.out _).mono ?_; rintro e w4 ⟨rfl, hb4⟩)
        go_ret
        exact ⟨ret_bool (hno.out rfl).symm, hb.trans (hb4.mono hb.size)⟩
      | true =>
        by_cases hi : i1 < next
        · have hi2 : ¬ next ≤ i1 := by omega
          cases dead with
          | false =>
            replace hst := Lib.hid (hst.out (by simp [hi]))
            go_wp2_with (go_at_call 70; refine (kM.out _).mono ?_; rintro e w4 ⟨rfl, hb4⟩; have p0' := (hb4.cell (p := ⟨b, _, none⟩) hbl).trans p0; have hbl4 := Nat.lt_of_lt_of_le hbl hb4.size)
            go_roundw
            case rel => exact ⟨k + 1, by omega, by go_num, hst.out, hb.trans (hb4.mono hb.size)⟩
            case measure => simp [intOf]; omega
          | true =>
            cases c1 with
            | false =>
              replace hst := Lib.hid (hst.out (by simp [hi]))
              go_wp2_with (go_at_call 70; refine (kM.out _).mono ?_; rintro e w4 ⟨rfl, hb4⟩; have p0' := (hb4.cell (p := ⟨b, _, none⟩) hbl).trans p0; have p3' := (hb4.cell (p := ⟨b, _, none⟩) hbl).trans p3; have hbl4 := Nat.lt_of_lt_of_le hbl hb4.size)
              go_roundw
              case rel => exact ⟨k + 1, by omega, by go_num, hst.out, hb.trans (hb4.mono hb.size)⟩
              case measure => simp [intOf]; omega
            | true =>
              go_wp2_with (go_at_call 70; refine (kM.out _).mono ?_; rintro e w4 ⟨rfl, hb4⟩; have p0' := (hb4.cell (p := ⟨b, _, none⟩) hbl).trans p0; have p3' := (hb4.cell (p := ⟨b, _, none⟩) hbl).trans p3; have hbl4 := Nat.lt_of_lt_of_le hbl hb4.size)
              go_ret
              exact ⟨ret_bool (hno.out (by simp)).symm, hb.trans (hb4.mono hb.size)⟩
        · have hi2 : next ≤ i1 := by omega
          go_wp2_with (go_at_call 70; refine (kM.out _).mono ?_; rintro e w4 ⟨rfl, hb4⟩; have p0' := (hb4.cell (p := ⟨b, _, none⟩) hbl).trans p0; have hbl4 := Nat.lt_of_lt_of_le hbl hb4.size)
          go_ret
          exact ⟨ret_bool (hno.out (by rw [decide_eq_false (by omega)]; rfl)).symm, hb.trans (hb4.mono hb.size)⟩
    · go_wp2_with fail
      go_ret
      exact ⟨ret_bool (all_yes (fun j hj => hall.out j hj (by omega))).symm, hb⟩

def cmpM (x y : Msg) : Int := if x.pri < y.pri then -1 else if y.pri < x.pri then 1 else if x.id < y.id then -1 else if y.id < x.id then 1 else 0
set_option maxHeartbeats 4000000 in
theorem refMsgs_any (w : World) (x y : Msg) : Calls Try.prog 91 #[.agg x.cells.toArray, .agg y.cells.toArray] w fun e w' => e = .returned (.int .i64 (cmpM x y)) ∧ Below w.heap.size w w' := by
  obtain ⟨i1, p1, r1, c1, a1, b1⟩ := x
  obtain ⟨i2, p2, r2, c2, a2, b2⟩ := y
  unfold cmpM Msg.cells
  simp only
  have hp : p1 < p2 ∨ (p1 = p2 ∧ ¬ p1 < p2 ∧ ¬ p2 < p1) ∨ (p2 < p1 ∧ ¬ p1 < p2 ∧ ¬ p1 = p2) := by omega
  have hi : i1 < i2 ∨ (i1 = i2 ∧ ¬ i1 < i2 ∧ ¬ i2 < i1) ∨ (i2 < i1 ∧ ¬ i1 < i2 ∧ ¬ i1 = i2) := by omega
  rcases hp with hp | ⟨rfl, hp1, hp2⟩ | ⟨hp, hp1, hp2⟩
  · go_enter Try.func91, Try.ntmps91
    go_wp2
    go_ret
    exact ⟨by first | rfl | (rw [if_pos hp]), by (refine upd_to_below ?_; repeat (first | exact Upd.refl _ _ | refine Upd.setCell ?_ (Or.inl (by simp)) _ | refine Upd.alloc ?_ _ | refine Upd.drewN ?_ _ | refine Upd.drew ?_))⟩
  · rcases hi with hi | ⟨rfl, hi1, hi2⟩ | ⟨hi, hi1, hi2⟩
    all_goals
      go_enter Try.func91, Try.ntmps91
      go_wp2
      go_ret
      exact ⟨by first | rfl | simp [*], by (refine upd_to_below ?_; repeat (first | exact Upd.refl _ _ | refine Upd.setCell ?_ (Or.inl (by simp)) _ | refine Upd.alloc ?_ _ | refine Upd.drewN ?_ _ | refine Upd.drew ?_))⟩
  · have hq : (p1 == p2) = false := beq_eq_false_iff_ne.2 hp2
    go_enter Try.func91, Try.ntmps91
    go_wp2
    go_ret
    exact ⟨by first | rfl | simp [*], by (refine upd_to_below ?_; repeat (first | exact Upd.refl _ _ | refine Upd.setCell ?_ (Or.inl (by simp)) _ | refine Upd.alloc ?_ _ | refine Upd.drewN ?_ _ | refine Upd.drew ?_))⟩
def byId (id : Int) (x : Msg) : Bool := decide (x.id = id)
set_option maxHeartbeats 2000000 in
theorem findMsg_any (w : World) (v : Value) (L : List Msg) (id : Int) (hv : VMsgs w v L) (hm : L.length ≤ 1000000) :
    Calls Try.prog 92 #[v, .int .i64 id] w fun e w' => e = .returned (.int .i64 (idxA (byId id) L)) ∧ w = w' := by
  obtain ⟨A, cap, rfl, hc, _⟩ := hv.cells
  replace hv := Lib.hid hv
  go_enter Try.func92, Try.ntmps92
  go_wp2_with fail
  go_loop [5] (fun i => ∃ k : Nat, k ≤ L.length ∧ i = .int .i64 k ∧ (∀ j (hj : j < L.length), j < k → byId id L[j] = false)) (fun i => L.length - (intOf i).toNat)
  case atStart => exact ⟨0, by omega, rfl, fun j _ h => by omega⟩
  case round =>
    obtain ⟨k, hk, rfl, hall⟩ := hrel
    replace hall := Lib.hid hall
    by_cases hlt : k < L.length
    · have q1 : (k : Int) < (L.length : Int) := by omega
      obtain ⟨b, off, cap', e, _, _, hbl, f⟩ := msgs_at hv.out (by omega)
      injection e with e1 e2 e3
      subst e1 e3
      obtain ⟨p0, _⟩ := f k hlt
      clear f
      have hst : L[k].id ≠ id → ∀ j (hj : j < L.length), j < k + 1 → byId id L[j] = false := fun h9 j hj hjk => by
        rcases Nat.lt_or_ge j k with h8 | h8
        · exact hall.out j hj h8
        · obtain rfl : j = k := by omega
          unfold byId
          exact decide_eq_false h9
      have hhit : L[k].id = id → idxA (byId id) L = k := fun h9 => idxA_at hlt (decide_eq_true h9) hall.out
      replace hst := Lib.hid hst
      replace hhit := Lib.hid hhit
      generalize L[k].id = x at *
      by_cases hq : x = id
      · subst hq
        go_wp2_with fail
        go_ret
        exact ⟨ret_int (hhit.out (by trivial)).symm, rfl⟩
      · have hq2 : (x == id) = false := beq_eq_false_iff_ne.2 hq
        go_wp2_with fail
        go_round
        case rel => exact ⟨k + 1, by omega, by go_num, hst.out hq⟩
        case measure => simp [intOf]; omega
    · go_wp2_with fail
      go_ret
      exact ⟨ret_int (idxA_none fun j hj => hall.out j hj (by omega)).symm, rfl⟩
/-- Does a message stand where it may, behind those ahead of it? -/
def stepM (L : List Msg) (k : Nat) : Bool := !(decide (0 < k) && decide (0 ≤ cmpM (L.getD (k - 1) Msg.zero) (L.getD k Msg.zero))) && !decide (idxA (byId (L.getD k Msg.zero).id) L < k)
def risesMB (L : List Msg) : Bool := (List.range L.length).all (stepM L)
theorem range_no {p : Nat → Bool} {n k : Nat} (hk : k < n) (h : p k = false) : (List.range n).all p = false := by
  rw [List.all_eq_false]
  exact ⟨k, List.mem_range.2 hk, by rw [h]; decide⟩
theorem range_yes {p : Nat → Bool} {n : Nat} (h : ∀ j, j < n → p j = true) : (List.range n).all p = true := by
  rw [List.all_eq_true]
  exact fun x hx => h x (List.mem_range.1 hx)
theorem getD_in {α : Type} {L : List α} {k : Nat} {z : α} (hk : k < L.length) : L.getD k z = L[k] := by simp [List.getD_eq_getElem?_getD, hk]
set_option maxRecDepth 100000 in
set_option maxHeartbeats 8000000 in
theorem risesMsgs_any (w : World) (v : Value) (L : List Msg) (h : VMsgs w v L) (hm : L.length ≤ 1000000) :
    Calls Try.prog 66 #[v] w fun e w' => e = .returned (.bool (risesMB L)) ∧ Below w.heap.size w w' := by
  obtain ⟨A, cap, rfl, hc, _⟩ := h.cells
  replace h := Lib.hid h
  go_enter Try.func66, Try.ntmps66
  go_wp2_with fail
  go_loopw [3] (fun i wr => ∃ k : Nat, k ≤ L.length ∧ i = .int .i64 k ∧ (∀ j, j < k → stepM L j = true) ∧ Below w.heap.size w wr) (fun i _ => L.length - (intOf i).toNat)
  case atStart => exact ⟨0, by omega, rfl, fun j h => by omega, Below.refl _ _⟩
  case round =>
    obtain ⟨k, hk, rfl, hall, hb⟩ := hrel
    replace hall := Lib.hid hall
    by_cases hlt : k < L.length
    · have q1 : (k : Int) < (L.length : Int) := by omega
      have hv := View.below h.out hb
      obtain ⟨b, off, cap', e, _, _, hbl, f⟩ := msgs_at hv (by omega)
      injection e with e1 e2 e3
      subst e1 e3
      obtain ⟨p0, p1, p2, p3, p4, p5⟩ := f k hlt
      have hst : stepM L k = true → ∀ j, j < k + 1 → stepM L j = true := fun h9 j hjk => by
        rcases Nat.lt_or_ge j k with h8 | h8
        · exact hall.out j h8
        · obtain rfl : j = k := by omega
          exact h9
      have hno : stepM L k = false → risesMB L = false := fun h9 => range_no hlt h9
      have hfm := fun W (hvW : VMsgs W (.slice (some ⟨b, off, none⟩) L.length cap) L) => findMsg_any W _ L L[k].id hvW hm
      unfold stepM at hst hno
      rw [getD_in hlt] at hst hno
      replace hv := Lib.hid hv
      by_cases hk0 : k = 0
      · have q3 : decide (0 < k) = false := decide_eq_false (by omega)
        rw [q3, Bool.false_and, Bool.not_false, Bool.true_and] at hst hno
        generalize idxA (byId L[k].id) L = ci at *
        generalize L[k].id = x at *
        replace hfm := Lib.hid hfm
        replace hst := Lib.hid hst
        replace hno := Lib.hid hno
        clear p1 p2 p3 p4 p5 f
        have hk0' := Lib.hid hk0
        clear hk0
        replace hb := Lib.hid hb
        by_cases hci : ci < (k : Int)
        · replace hno := Lib.hid (hno.out (by simp [hci]))
          go_wp2_with fail
          go_quiet ((go_at_call 92; exact quiet_at (hfm.out _ (View.drewN hv.out _)) ⟨_, rfl⟩))
          go_wp2_with fail
          go_ret
          exact ⟨ret_bool hno.out.symm, below_dn _ hb.out⟩
        · replace hst := Lib.hid (hst.out (by simp [hci]))
          go_wp2_with fail
          go_quiet ((go_at_call 92; exact quiet_at (hfm.out _ (View.drewN hv.out _)) ⟨_, rfl⟩))
          go_wp2_with fail
          go_roundw
          case rel => exact ⟨k + 1, by omega, by go_num, hst.out, below_dn _ hb.out⟩
          case measure => simp [intOf]; omega
      · obtain ⟨j, hj⟩ : ∃ j, k = j + 1 := ⟨k - 1, by omega⟩
        have hjl : j < L.length := by omega
        obtain ⟨r0, r1, r2, r3, r4, r5⟩ := f j hjl
        have q3 : decide (0 < k) = true := decide_eq_true (by omega)
        have ew : IntKind.i64.wrap ((k : Int) - 1) = (j : Int) := by rw [IntKind.wrap_i64]; omega
        have q2 : (j : Int) < (L.length : Int) := by omega
        have hms := fun W => refMsgs_any W L[j] L[k]
        rw [q3, Bool.true_and, show k - 1 = j by omega, getD_in hjl] at hst hno
        clear f
        unfold Msg.cells at hms
        generalize cmpM L[j] L[k] = cc at *
        generalize idxA (byId L[k].id) L = ci at *
        generalize L[k] = x at *
        generalize L[j] = y at *
        replace hms := Lib.hid hms
        replace hfm := Lib.hid hfm
        replace hst := Lib.hid hst
        replace hno := Lib.hid hno
        replace hj := Lib.hid hj
        replace hk0 := Lib.hid hk0
        have hS : ∀ W, Below wr.heap.size wr W → (W.cell? ⟨b, off + k * 6, none⟩ = some (.int .i64 x.id) ∧ W.cell? ⟨b, off + k * 6 + 1, none⟩ = some (.int .i64 x.pri) ∧ W.cell? ⟨b, off + k * 6 + 2, none⟩ = some (.int .i64 x.retry) ∧ W.cell? ⟨b, off + k * 6 + 3, none⟩ = some (.bool x.claimed) ∧ W.cell? ⟨b, off + k * 6 + 4, none⟩ = some (.string x.corr) ∧ W.cell? ⟨b, off + k * 6 + 5, none⟩ = some (.string x.body)) ∧ (W.cell? ⟨b, off + j * 6, none⟩ = some (.int .i64 y.id) ∧ W.cell? ⟨b, off + j * 6 + 1, none⟩ = some (.int .i64 y.pri) ∧ W.cell? ⟨b, off + j * 6 + 2, none⟩ = some (.int .i64 y.retry) ∧ W.cell? ⟨b, off + j * 6 + 3, none⟩ = some (.bool y.claimed) ∧ W.cell? ⟨b, off + j * 6 + 4, none⟩ = some (.string y.corr) ∧ W.cell? ⟨b, off + j * 6 + 5, none⟩ = some (.string y.body)) := fun W hW =>
          ⟨⟨(hW.cell (p := ⟨b, _, none⟩) hbl).trans p0, (hW.cell (p := ⟨b, _, none⟩) hbl).trans p1, (hW.cell (p := ⟨b, _, none⟩) hbl).trans p2, (hW.cell (p := ⟨b, _, none⟩) hbl).trans p3, (hW.cell (p := ⟨b, _, none⟩) hbl).trans p4, (hW.cell (p := ⟨b, _, none⟩) hbl).trans p5⟩, (hW.cell (p := ⟨b, _, none⟩) hbl).trans r0, (hW.cell (p := ⟨b, _, none⟩) hbl).trans r1, (hW.cell (p := ⟨b, _, none⟩) hbl).trans r2, (hW.cell (p := ⟨b, _, none⟩) hbl).trans r3, (hW.cell (p := ⟨b, _, none⟩) hbl).trans r4, (hW.cell (p := ⟨b, _, none⟩) hbl).trans r5⟩
        replace hS := Lib.hid hS
        have hd : Below wr.heap.size wr wr.drew := Below.drew (Below.refl _ _)
        clear p0 p1 p2 p3 p4 p5 r0 r1 r2 r3 r4 r5
        by_cases h0 : 0 ≤ cc
        · have q5 : decide (0 ≤ cc) = true := decide_eq_true h0
          replace hno := Lib.hid (hno.out (by simp [h0]))
          go_upto_region 4 with fail
          refine tl_begin (fun (w' : World) => (w'.cell? ⟨b, off + k * 6, none⟩ = some (.int .i64 x.id) ∧ w'.cell? ⟨b, off + k * 6 + 1, none⟩ = some (.int .i64 x.pri) ∧ w'.cell? ⟨b, off + k * 6 + 2, none⟩ = some (.int .i64 x.retry) ∧ w'.cell? ⟨b, off + k * 6 + 3, none⟩ = some (.bool x.claimed) ∧ w'.cell? ⟨b, off + k * 6 + 4, none⟩ = some (.string x.corr) ∧ w'.cell? ⟨b, off + k * 6 + 5, none⟩ = some (.string x.body)) ∧ (w'.cell? ⟨b, off + j * 6, none⟩ = some (.int .i64 y.id) ∧ w'.cell? ⟨b, off + j * 6 + 1, none⟩ = some (.int .i64 y.pri) ∧ w'.cell? ⟨b, off + j * 6 + 2, none⟩ = some (.int .i64 y.retry) ∧ w'.cell? ⟨b, off + j * 6 + 3, none⟩ = some (.bool y.claimed) ∧ w'.cell? ⟨b, off + j * 6 + 4, none⟩ = some (.string y.corr) ∧ w'.cell? ⟨b, off + j * 6 + 5, none⟩ = some (.string y.body))) [] (by kernel_rfl) (hS.out _ hd) (fun hHeld => ?_)
          refine tl_p (i := 0) (v := ?_) rfl (by rfl) (by kernel_rfl) (by kernel_rfl) (by kernel_rfl) (fun _ _ _ h => h) (by rfl) hHeld ?_ ?_
          rotate_left
          · intro w
            go_simp
            try (with_reducible rfl)
          try simp only [Act.put, List.setIfInBounds_toArray, List.set_cons_zero, List.set_cons_succ]
          refine tl_p (i := 1) (v := ?_) rfl (by rfl) (by kernel_rfl) (by kernel_rfl) (by kernel_rfl) (fun _ _ _ h => h) (by rfl) hHeld ?_ ?_
          rotate_left
          · intro w
            go_simp
            try (with_reducible rfl)
          try simp only [Act.put, List.setIfInBounds_toArray, List.set_cons_zero, List.set_cons_succ]
          refine tl_p (i := 2) (v := ?_) rfl (by rfl) (by kernel_rfl) (by kernel_rfl) (by kernel_rfl) (fun _ _ _ h => h) (by rfl) hHeld ?_ ?_
          rotate_left
          · intro w
            go_simp
            try (with_reducible rfl)
          try simp only [Act.put, List.setIfInBounds_toArray, List.set_cons_zero, List.set_cons_succ]
          refine tl_p (i := 3) (v := ?_) rfl (by rfl) (by kernel_rfl) (by kernel_rfl) (by kernel_rfl) (fun _ _ _ h => h) (by rfl) hHeld ?_ ?_
          rotate_left
          · intro w
            go_simp
            try (with_reducible rfl)
          try simp only [Act.put, List.setIfInBounds_toArray, List.set_cons_zero, List.set_cons_succ]
          refine tl_p (i := 4) (v := ?_) rfl (by rfl) (by kernel_rfl) (by kernel_rfl) (by kernel_rfl) (fun _ _ _ h => h) (by rfl) hHeld ?_ ?_
          rotate_left
          · intro w
            go_simp
            try (with_reducible rfl)
          try simp only [Act.put, List.setIfInBounds_toArray, List.set_cons_zero, List.set_cons_succ]
          refine tl_p (i := 5) (v := ?_) rfl (by rfl) (by kernel_rfl) (by kernel_rfl) (by kernel_rfl) (fun _ _ _ h => h) (by rfl) hHeld ?_ ?_
          rotate_left
          · intro w
            go_simp
            try (with_reducible rfl)
          try simp only [Act.put, List.setIfInBounds_toArray, List.set_cons_zero, List.set_cons_succ]
          refine tl_p (i := 6) (v := ?_) rfl (by rfl) (by kernel_rfl) (by kernel_rfl) (by kernel_rfl) (fun _ _ _ h => h) (by rfl) hHeld ?_ ?_
          rotate_left
          · intro w
            go_simp
            try (with_reducible rfl)
          try simp only [Act.put, List.setIfInBounds_toArray, List.set_cons_zero, List.set_cons_succ]
          refine tl_w (i := 7) (v := ?_) rfl (by rfl) (by kernel_rfl) (by kernel_rfl) (by kernel_rfl) (by kernel_rfl) (by kernel_rfl) (fun _ _ _ h => h) (by rfl) hHeld ?_ ?_
          rotate_left
          · intro w hSw
            try dsimp only at hSw
            go_simp
            try (with_reducible rfl)
          try simp only [Act.put, List.setIfInBounds_toArray, List.set_cons_zero, List.set_cons_succ]
          refine tl_p (i := 8) (v := ?_) rfl (by rfl) (by kernel_rfl) (by kernel_rfl) (by kernel_rfl) (fun _ _ _ h => h) (by rfl) hHeld ?_ ?_
          rotate_left
          · intro w
            go_simp
            try (with_reducible rfl)
          try simp only [Act.put, List.setIfInBounds_toArray, List.set_cons_zero, List.set_cons_succ]
          refine tl_p (i := 9) (v := ?_) rfl (by rfl) (by kernel_rfl) (by kernel_rfl) (by kernel_rfl) (fun _ _ _ h => h) (by rfl) hHeld ?_ ?_
          rotate_left
          · intro w
            go_simp
            try (with_reducible rfl)
          try simp only [Act.put, List.setIfInBounds_toArray, List.set_cons_zero, List.set_cons_succ]
          refine tl_p (i := 10) (v := ?_) rfl (by rfl) (by kernel_rfl) (by kernel_rfl) (by kernel_rfl) (fun _ _ _ h => h) (by rfl) hHeld ?_ ?_
          rotate_left
          · intro w
            go_simp
            try (with_reducible rfl)
          try simp only [Act.put, List.setIfInBounds_toArray, List.set_cons_zero, List.set_cons_succ]
          refine tl_w (i := 11) (v := ?_) rfl (by rfl) (by kernel_rfl) (by kernel_rfl) (by kernel_rfl) (by kernel_rfl) (by kernel_rfl) (fun _ _ _ h => h) (by rfl) hHeld ?_ ?_
          rotate_left
          · intro w hSw
            try dsimp only at hSw
            go_simp
            try (with_reducible rfl)
          try simp only [Act.put, List.setIfInBounds_toArray, List.set_cons_zero, List.set_cons_succ]
          refine tl_do (i := 12) rfl (by kernel_rfl) (by rfl) (fun K hK => ?_)
          go_simp
          go_at_call 91
          refine (hms.out _).mono ?_; rintro e w4 ⟨rfl, hb4⟩
          have hd4 := Lib.hid (hd.trans (hb4.mono hd.size))
          have hcN := hS.out _ hd4.out
          clear hb4
          try go_wp2_with fail
          refine hK.out _ _ (hcN) (fun hHeld1 => ?_)
          clear hK K hHeld
          have hHeld := hHeld1
          clear hHeld1
          try simp only [Act.put, List.setIfInBounds_toArray, List.set_cons_zero, List.set_cons_succ]
          refine tl_p (i := 13) (v := ?_) rfl (by rfl) (by kernel_rfl) (by kernel_rfl) (by kernel_rfl) (fun _ _ _ h => h) (by rfl) hHeld ?_ ?_
          rotate_left
          · intro w
            go_simp
            try (with_reducible rfl)
          try simp only [Act.put, List.setIfInBounds_toArray, List.set_cons_zero, List.set_cons_succ]
          refine tl_p (i := 14) (v := ?_) rfl (by rfl) (by kernel_rfl) (by kernel_rfl) (by kernel_rfl) (fun _ _ _ h => h) (by rfl) hHeld ?_ ?_
          rotate_left
          · intro w
            go_simp
            try (with_reducible rfl)
          try simp only [Act.put, List.setIfInBounds_toArray, List.set_cons_zero, List.set_cons_succ]
          refine tl_p (i := 15) (v := ?_) rfl (by rfl) (by kernel_rfl) (by kernel_rfl) (by kernel_rfl) (fun _ _ _ h => h) (by rfl) hHeld ?_ ?_
          rotate_left
          · intro w
            go_simp
            try (with_reducible rfl)
          try simp only [Act.put, List.setIfInBounds_toArray, List.set_cons_zero, List.set_cons_succ]
          refine tl_u (i := 16) rfl (by rfl) (by kernel_rfl) (by kernel_rfl) (by kernel_rfl) (fun _ _ _ h => h) (by rfl) hHeld ?_
          try simp only [Act.put, List.setIfInBounds_toArray, List.set_cons_zero, List.set_cons_succ]
          refine tl_u (i := 17) rfl (by rfl) (by kernel_rfl) (by kernel_rfl) (by kernel_rfl) (fun _ _ _ h => h) (by rfl) hHeld ?_
          try simp only [Act.put, List.setIfInBounds_toArray, List.set_cons_zero, List.set_cons_succ]
          refine tl_u (i := 18) rfl (by rfl) (by kernel_rfl) (by kernel_rfl) (by kernel_rfl) (fun _ _ _ h => h) (by rfl) hHeld ?_
          try simp only [Act.put, List.setIfInBounds_toArray, List.set_cons_zero, List.set_cons_succ]
          refine tl_u (i := 19) rfl (by rfl) (by kernel_rfl) (by kernel_rfl) (by kernel_rfl) (fun _ _ _ h => h) (by rfl) hHeld ?_
          try simp only [Act.put, List.setIfInBounds_toArray, List.set_cons_zero, List.set_cons_succ]
          refine tl_u (i := 20) rfl (by rfl) (by kernel_rfl) (by kernel_rfl) (by kernel_rfl) (fun _ _ _ h => h) (by rfl) hHeld ?_
          try simp only [Act.put, List.setIfInBounds_toArray, List.set_cons_zero, List.set_cons_succ]
          refine tl_u (i := 21) rfl (by rfl) (by kernel_rfl) (by kernel_rfl) (by kernel_rfl) (fun _ _ _ h => h) (by rfl) hHeld ?_
          try simp only [Act.put, List.setIfInBounds_toArray, List.set_cons_zero, List.set_cons_succ]
          refine tl_u (i := 22) rfl (by rfl) (by kernel_rfl) (by kernel_rfl) (by kernel_rfl) (fun _ _ _ h => h) (by rfl) hHeld ?_
          try simp only [Act.put, List.setIfInBounds_toArray, List.set_cons_zero, List.set_cons_succ]
          refine tl_u (i := 23) rfl (by rfl) (by kernel_rfl) (by kernel_rfl) (by kernel_rfl) (fun _ _ _ h => h) (by rfl) hHeld ?_
          try simp only [Act.put, List.setIfInBounds_toArray, List.set_cons_zero, List.set_cons_succ]
          refine tl_u (i := 24) rfl (by rfl) (by kernel_rfl) (by kernel_rfl) (by kernel_rfl) (fun _ _ _ h => h) (by rfl) hHeld ?_
          try simp only [Act.put, List.setIfInBounds_toArray, List.set_cons_zero, List.set_cons_succ]
          refine tl_p (i := 25) (v := ?_) rfl (by rfl) (by kernel_rfl) (by kernel_rfl) (by kernel_rfl) (fun _ _ _ h => h) (by rfl) hHeld ?_ ?_
          rotate_left
          · intro w
            go_simp
            try (with_reducible rfl)
          try simp only [Act.put, List.setIfInBounds_toArray, List.set_cons_zero, List.set_cons_succ]
          refine till_done (by kernel_rfl) ?_ _
          clear hHeld
          go_wp2_with fail
          go_ret
          exact ⟨ret_bool hno.out.symm, hb.trans (hd4.out.mono hb.size)⟩
        · have q5 : decide (0 ≤ cc) = false := decide_eq_false h0
          by_cases hci : ci < (k : Int)
          · replace hno := Lib.hid (hno.out (by simp [hci]))
            go_upto_region 4 with fail
            refine tl_begin (fun (w' : World) => (w'.cell? ⟨b, off + k * 6, none⟩ = some (.int .i64 x.id) ∧ w'.cell? ⟨b, off + k * 6 + 1, none⟩ = some (.int .i64 x.pri) ∧ w'.cell? ⟨b, off + k * 6 + 2, none⟩ = some (.int .i64 x.retry) ∧ w'.cell? ⟨b, off + k * 6 + 3, none⟩ = some (.bool x.claimed) ∧ w'.cell? ⟨b, off + k * 6 + 4, none⟩ = some (.string x.corr) ∧ w'.cell? ⟨b, off + k * 6 + 5, none⟩ = some (.string x.body)) ∧ (w'.cell? ⟨b, off + j * 6, none⟩ = some (.int .i64 y.id) ∧ w'.cell? ⟨b, off + j * 6 + 1, none⟩ = some (.int .i64 y.pri) ∧ w'.cell? ⟨b, off + j * 6 + 2, none⟩ = some (.int .i64 y.retry) ∧ w'.cell? ⟨b, off + j * 6 + 3, none⟩ = some (.bool y.claimed) ∧ w'.cell? ⟨b, off + j * 6 + 4, none⟩ = some (.string y.corr) ∧ w'.cell? ⟨b, off + j * 6 + 5, none⟩ = some (.string y.body))) [] (by kernel_rfl) (hS.out _ hd) (fun hHeld => ?_)
            refine tl_p (i := 0) (v := ?_) rfl (by rfl) (by kernel_rfl) (by kernel_rfl) (by kernel_rfl) (fun _ _ _ h => h) (by rfl) hHeld ?_ ?_
            rotate_left
            · intro w
              go_simp
              try (with_reducible rfl)
            try simp only [Act.put, List.setIfInBounds_toArray, List.set_cons_zero, List.set_cons_succ]
            refine tl_p (i := 1) (v := ?_) rfl (by rfl) (by kernel_rfl) (by kernel_rfl) (by kernel_rfl) (fun _ _ _ h => h) (by rfl) hHeld ?_ ?_
            rotate_left
            · intro w
              go_simp
              try (with_reducible rfl)
            try simp only [Act.put, List.setIfInBounds_toArray, List.set_cons_zero, List.set_cons_succ]
            refine tl_p (i := 2) (v := ?_) rfl (by rfl) (by kernel_rfl) (by kernel_rfl) (by kernel_rfl) (fun _ _ _ h => h) (by rfl) hHeld ?_ ?_
            rotate_left
            · intro w
              go_simp
              try (with_reducible rfl)
            try simp only [Act.put, List.setIfInBounds_toArray, List.set_cons_zero, List.set_cons_succ]
            refine tl_p (i := 3) (v := ?_) rfl (by rfl) (by kernel_rfl) (by kernel_rfl) (by kernel_rfl) (fun _ _ _ h => h) (by rfl) hHeld ?_ ?_
            rotate_left
            · intro w
              go_simp
              try (with_reducible rfl)
            try simp only [Act.put, List.setIfInBounds_toArray, List.set_cons_zero, List.set_cons_succ]
            refine tl_p (i := 4) (v := ?_) rfl (by rfl) (by kernel_rfl) (by kernel_rfl) (by kernel_rfl) (fun _ _ _ h => h) (by rfl) hHeld ?_ ?_
            rotate_left
            · intro w
              go_simp
              try (with_reducible rfl)
            try simp only [Act.put, List.setIfInBounds_toArray, List.set_cons_zero, List.set_cons_succ]
            refine tl_p (i := 5) (v := ?_) rfl (by rfl) (by kernel_rfl) (by kernel_rfl) (by kernel_rfl) (fun _ _ _ h => h) (by rfl) hHeld ?_ ?_
            rotate_left
            · intro w
              go_simp
              try (with_reducible rfl)
            try simp only [Act.put, List.setIfInBounds_toArray, List.set_cons_zero, List.set_cons_succ]
            refine tl_p (i := 6) (v := ?_) rfl (by rfl) (by kernel_rfl) (by kernel_rfl) (by kernel_rfl) (fun _ _ _ h => h) (by rfl) hHeld ?_ ?_
            rotate_left
            · intro w
              go_simp
              try (with_reducible rfl)
            try simp only [Act.put, List.setIfInBounds_toArray, List.set_cons_zero, List.set_cons_succ]
            refine tl_w (i := 7) (v := ?_) rfl (by rfl) (by kernel_rfl) (by kernel_rfl) (by kernel_rfl) (by kernel_rfl) (by kernel_rfl) (fun _ _ _ h => h) (by rfl) hHeld ?_ ?_
            rotate_left
            · intro w hSw
              try dsimp only at hSw
              go_simp
              try (with_reducible rfl)
            try simp only [Act.put, List.setIfInBounds_toArray, List.set_cons_zero, List.set_cons_succ]
            refine tl_p (i := 8) (v := ?_) rfl (by rfl) (by kernel_rfl) (by kernel_rfl) (by kernel_rfl) (fun _ _ _ h => h) (by rfl) hHeld ?_ ?_
            rotate_left
            · intro w
              go_simp
              try (with_reducible rfl)
            try simp only [Act.put, List.setIfInBounds_toArray, List.set_cons_zero, List.set_cons_succ]
            refine tl_p (i := 9) (v := ?_) rfl (by rfl) (by kernel_rfl) (by kernel_rfl) (by kernel_rfl) (fun _ _ _ h => h) (by rfl) hHeld ?_ ?_
            rotate_left
            · intro w
              go_simp
              try (with_reducible rfl)
            try simp only [Act.put, List.setIfInBounds_toArray, List.set_cons_zero, List.set_cons_succ]
            refine tl_p (i := 10) (v := ?_) rfl (by rfl) (by kernel_rfl) (by kernel_rfl) (by kernel_rfl) (fun _ _ _ h => h) (by rfl) hHeld ?_ ?_
            rotate_left
            · intro w
              go_simp
              try (with_reducible rfl)
            try simp only [Act.put, List.setIfInBounds_toArray, List.set_cons_zero, List.set_cons_succ]
            refine tl_w (i := 11) (v := ?_) rfl (by rfl) (by kernel_rfl) (by kernel_rfl) (by kernel_rfl) (by kernel_rfl) (by kernel_rfl) (fun _ _ _ h => h) (by rfl) hHeld ?_ ?_
            rotate_left
            · intro w hSw
              try dsimp only at hSw
              go_simp
              try (with_reducible rfl)
            try simp only [Act.put, List.setIfInBounds_toArray, List.set_cons_zero, List.set_cons_succ]
            refine tl_do (i := 12) rfl (by kernel_rfl) (by rfl) (fun K hK => ?_)
            go_simp
            go_at_call 91
            refine (hms.out _).mono ?_; rintro e w4 ⟨rfl, hb4⟩
            have hd4 := Lib.hid (hd.trans (hb4.mono hd.size))
            have hcN := hS.out _ hd4.out
            clear hb4
            try go_wp2_with fail
            refine hK.out _ _ (hcN) (fun hHeld1 => ?_)
            clear hK K hHeld
            have hHeld := hHeld1
            clear hHeld1
            try simp only [Act.put, List.setIfInBounds_toArray, List.set_cons_zero, List.set_cons_succ]
            refine tl_p (i := 13) (v := ?_) rfl (by rfl) (by kernel_rfl) (by kernel_rfl) (by kernel_rfl) (fun _ _ _ h => h) (by rfl) hHeld ?_ ?_
            rotate_left
            · intro w
              go_simp
              try (with_reducible rfl)
            try simp only [Act.put, List.setIfInBounds_toArray, List.set_cons_zero, List.set_cons_succ]
            refine tl_p (i := 14) (v := ?_) rfl (by rfl) (by kernel_rfl) (by kernel_rfl) (by kernel_rfl) (fun _ _ _ h => h) (by rfl) hHeld ?_ ?_
            rotate_left
            · intro w
              go_simp
              try (with_reducible rfl)
            try simp only [Act.put, List.setIfInBounds_toArray, List.set_cons_zero, List.set_cons_succ]
            refine tl_p (i := 15) (v := ?_) rfl (by rfl) (by kernel_rfl) (by kernel_rfl) (by kernel_rfl) (fun _ _ _ h => h) (by rfl) hHeld ?_ ?_
            rotate_left
            · intro w
              go_simp
              try (with_reducible rfl)
            try simp only [Act.put, List.setIfInBounds_toArray, List.set_cons_zero, List.set_cons_succ]
            refine tl_p (i := 16) (v := ?_) rfl (by rfl) (by kernel_rfl) (by kernel_rfl) (by kernel_rfl) (fun _ _ _ h => h) (by rfl) hHeld ?_ ?_
            rotate_left
            · intro w
              go_simp
              try (with_reducible rfl)
            try simp only [Act.put, List.setIfInBounds_toArray, List.set_cons_zero, List.set_cons_succ]
            refine tl_p (i := 17) (v := ?_) rfl (by rfl) (by kernel_rfl) (by kernel_rfl) (by kernel_rfl) (fun _ _ _ h => h) (by rfl) hHeld ?_ ?_
            rotate_left
            · intro w
              go_simp
              try (with_reducible rfl)
            try simp only [Act.put, List.setIfInBounds_toArray, List.set_cons_zero, List.set_cons_succ]
            refine tl_p (i := 18) (v := ?_) rfl (by rfl) (by kernel_rfl) (by kernel_rfl) (by kernel_rfl) (fun _ _ _ h => h) (by rfl) hHeld ?_ ?_
            rotate_left
            · intro w
              go_simp
              try (with_reducible rfl)
            try simp only [Act.put, List.setIfInBounds_toArray, List.set_cons_zero, List.set_cons_succ]
            refine tl_p (i := 19) (v := ?_) rfl (by rfl) (by kernel_rfl) (by kernel_rfl) (by kernel_rfl) (fun _ _ _ h => h) (by rfl) hHeld ?_ ?_
            rotate_left
            · intro w
              go_simp
              try (with_reducible rfl)
            try simp only [Act.put, List.setIfInBounds_toArray, List.set_cons_zero, List.set_cons_succ]
            refine tl_p (i := 20) (v := ?_) rfl (by rfl) (by kernel_rfl) (by kernel_rfl) (by kernel_rfl) (fun _ _ _ h => h) (by rfl) hHeld ?_ ?_
            rotate_left
            · intro w
              go_simp
              try (with_reducible rfl)
            try simp only [Act.put, List.setIfInBounds_toArray, List.set_cons_zero, List.set_cons_succ]
            refine tl_w (i := 21) (v := ?_) rfl (by rfl) (by kernel_rfl) (by kernel_rfl) (by kernel_rfl) (by kernel_rfl) (by kernel_rfl) (fun _ _ _ h => h) (by rfl) hHeld ?_ ?_
            rotate_left
            · intro w hSw
              try dsimp only at hSw
              go_simp
              try (with_reducible rfl)
            try simp only [Act.put, List.setIfInBounds_toArray, List.set_cons_zero, List.set_cons_succ]
            refine tl_p (i := 23) (v := ?_) rfl (by rfl) (by kernel_rfl) (by kernel_rfl) (by kernel_rfl) (fun _ _ _ h => h) (by rfl) hHeld ?_ ?_
            rotate_left
            · intro w
              go_simp
              try (with_reducible rfl)
            try simp only [Act.put, List.setIfInBounds_toArray, List.set_cons_zero, List.set_cons_succ]
            refine tl_do (i := 22) rfl (by kernel_rfl) (by rfl) (fun K hK => ?_)
            go_simp
            go_at_call 92
            refine (hfm.out _ (View.below hv.out hd4.out)).mono ?_; rintro e w9 ⟨rfl, hw1⟩
            have hw2 := hw1.symm
            subst hw2
            clear hw1
            try go_wp2_with fail
            refine hK.out _ _ (hHeld) (fun hHeld1 => ?_)
            clear hK K hHeld
            have hHeld := hHeld1
            clear hHeld1
            try simp only [Act.put, List.setIfInBounds_toArray, List.set_cons_zero, List.set_cons_succ]
            refine tl_p (i := 24) (v := ?_) rfl (by rfl) (by kernel_rfl) (by kernel_rfl) (by kernel_rfl) (fun _ _ _ h => h) (by rfl) hHeld ?_ ?_
            rotate_left
            · intro w
              go_simp
              try (with_reducible rfl)
            try simp only [Act.put, List.setIfInBounds_toArray, List.set_cons_zero, List.set_cons_succ]
            refine tl_p (i := 25) (v := ?_) rfl (by rfl) (by kernel_rfl) (by kernel_rfl) (by kernel_rfl) (fun _ _ _ h => h) (by rfl) hHeld ?_ ?_
            rotate_left
            · intro w
              go_simp
              try (with_reducible rfl)
            try simp only [Act.put, List.setIfInBounds_toArray, List.set_cons_zero, List.set_cons_succ]
            refine till_done (by kernel_rfl) ?_ _
            clear hHeld
            go_wp2_with fail
            go_ret
            exact ⟨ret_bool hno.out.symm, hb.trans (hd4.out.mono hb.size)⟩
          · replace hst := Lib.hid (hst.out (by simp [hci, h0]))
            go_upto_region 4 with fail
            refine tl_begin (fun (w' : World) => (w'.cell? ⟨b, off + k * 6, none⟩ = some (.int .i64 x.id) ∧ w'.cell? ⟨b, off + k * 6 + 1, none⟩ = some (.int .i64 x.pri) ∧ w'.cell? ⟨b, off + k * 6 + 2, none⟩ = some (.int .i64 x.retry) ∧ w'.cell? ⟨b, off + k * 6 + 3, none⟩ = some (.bool x.claimed) ∧ w'.cell? ⟨b, off + k * 6 + 4, none⟩ = some (.string x.corr) ∧ w'.cell? ⟨b, off + k * 6 + 5, none⟩ = some (.string x.body)) ∧ (w'.cell? ⟨b, off + j * 6, none⟩ = some (.int .i64 y.id) ∧ w'.cell? ⟨b, off + j * 6 + 1, none⟩ = some (.int .i64 y.pri) ∧ w'.cell? ⟨b, off + j * 6 + 2, none⟩ = some (.int .i64 y.retry) ∧ w'.cell? ⟨b, off + j * 6 + 3, none⟩ = some (.bool y.claimed) ∧ w'.cell? ⟨b, off + j * 6 + 4, none⟩ = some (.string y.corr) ∧ w'.cell? ⟨b, off + j * 6 + 5, none⟩ = some (.string y.body))) [] (by kernel_rfl) (hS.out _ hd) (fun hHeld => ?_)
            refine tl_p (i := 0) (v := ?_) rfl (by rfl) (by kernel_rfl) (by kernel_rfl) (by kernel_rfl) (fun _ _ _ h => h) (by rfl) hHeld ?_ ?_
            rotate_left
            · intro w
              go_simp
              try (with_reducible rfl)
            try simp only [Act.put, List.setIfInBounds_toArray, List.set_cons_zero, List.set_cons_succ]
            refine tl_p (i := 1) (v := ?_) rfl (by rfl) (by kernel_rfl) (by kernel_rfl) (by kernel_rfl) (fun _ _ _ h => h) (by rfl) hHeld ?_ ?_
            rotate_left
            · intro w
              go_simp
              try (with_reducible rfl)
            try simp only [Act.put, List.setIfInBounds_toArray, List.set_cons_zero, List.set_cons_succ]
            refine tl_p (i := 2) (v := ?_) rfl (by rfl) (by kernel_rfl) (by kernel_rfl) (by kernel_rfl) (fun _ _ _ h => h) (by rfl) hHeld ?_ ?_
            rotate_left
            · intro w
              go_simp
              try (with_reducible rfl)
            try simp only [Act.put, List.setIfInBounds_toArray, List.set_cons_zero, List.set_cons_succ]
            refine tl_p (i := 3) (v := ?_) rfl (by rfl) (by kernel_rfl) (by kernel_rfl) (by kernel_rfl) (fun _ _ _ h => h) (by rfl) hHeld ?_ ?_
            rotate_left
            · intro w
              go_simp
              try (with_reducible rfl)
            try simp only [Act.put, List.setIfInBounds_toArray, List.set_cons_zero, List.set_cons_succ]
            refine tl_p (i := 4) (v := ?_) rfl (by rfl) (by kernel_rfl) (by kernel_rfl) (by kernel_rfl) (fun _ _ _ h => h) (by rfl) hHeld ?_ ?_
            rotate_left
            · intro w
              go_simp
              try (with_reducible rfl)
            try simp only [Act.put, List.setIfInBounds_toArray, List.set_cons_zero, List.set_cons_succ]
            refine tl_p (i := 5) (v := ?_) rfl (by rfl) (by kernel_rfl) (by kernel_rfl) (by kernel_rfl) (fun _ _ _ h => h) (by rfl) hHeld ?_ ?_
            rotate_left
            · intro w
              go_simp
              try (with_reducible rfl)
            try simp only [Act.put, List.setIfInBounds_toArray, List.set_cons_zero, List.set_cons_succ]
            refine tl_p (i := 6) (v := ?_) rfl (by rfl) (by kernel_rfl) (by kernel_rfl) (by kernel_rfl) (fun _ _ _ h => h) (by rfl) hHeld ?_ ?_
            rotate_left
            · intro w
              go_simp
              try (with_reducible rfl)
            try simp only [Act.put, List.setIfInBounds_toArray, List.set_cons_zero, List.set_cons_succ]
            refine tl_w (i := 7) (v := ?_) rfl (by rfl) (by kernel_rfl) (by kernel_rfl) (by kernel_rfl) (by kernel_rfl) (by kernel_rfl) (fun _ _ _ h => h) (by rfl) hHeld ?_ ?_
            rotate_left
            · intro w hSw
              try dsimp only at hSw
              go_simp
              try (with_reducible rfl)
            try simp only [Act.put, List.setIfInBounds_toArray, List.set_cons_zero, List.set_cons_succ]
            refine tl_p (i := 8) (v := ?_) rfl (by rfl) (by kernel_rfl) (by kernel_rfl) (by kernel_rfl) (fun _ _ _ h => h) (by rfl) hHeld ?_ ?_
            rotate_left
            · intro w
              go_simp
              try (with_reducible rfl)
            try simp only [Act.put, List.setIfInBounds_toArray, List.set_cons_zero, List.set_cons_succ]
            refine tl_p (i := 9) (v := ?_) rfl (by rfl) (by kernel_rfl) (by kernel_rfl) (by kernel_rfl) (fun _ _ _ h => h) (by rfl) hHeld ?_ ?_
            rotate_left
            · intro w
              go_simp
              try (with_reducible rfl)
            try simp only [Act.put, List.setIfInBounds_toArray, List.set_cons_zero, List.set_cons_succ]
            refine tl_p (i := 10) (v := ?_) rfl (by rfl) (by kernel_rfl) (by kernel_rfl) (by kernel_rfl) (fun _ _ _ h => h) (by rfl) hHeld ?_ ?_
            rotate_left
            · intro w
              go_simp
              try (with_reducible rfl)
            try simp only [Act.put, List.setIfInBounds_toArray, List.set_cons_zero, List.set_cons_succ]
            refine tl_w (i := 11) (v := ?_) rfl (by rfl) (by kernel_rfl) (by kernel_rfl) (by kernel_rfl) (by kernel_rfl) (by kernel_rfl) (fun _ _ _ h => h) (by rfl) hHeld ?_ ?_
            rotate_left
            · intro w hSw
              try dsimp only at hSw
              go_simp
              try (with_reducible rfl)
            try simp only [Act.put, List.setIfInBounds_toArray, List.set_cons_zero, List.set_cons_succ]
            refine tl_do (i := 12) rfl (by kernel_rfl) (by rfl) (fun K hK => ?_)
            go_simp
            go_at_call 91
            refine (hms.out _).mono ?_; rintro e w4 ⟨rfl, hb4⟩
            have hd4 := Lib.hid (hd.trans (hb4.mono hd.size))
            have hcN := hS.out _ hd4.out
            clear hb4
            try go_wp2_with fail
            refine hK.out _ _ (hcN) (fun hHeld1 => ?_)
            clear hK K hHeld
            have hHeld := hHeld1
            clear hHeld1
            try simp only [Act.put, List.setIfInBounds_toArray, List.set_cons_zero, List.set_cons_succ]
            refine tl_p (i := 13) (v := ?_) rfl (by rfl) (by kernel_rfl) (by kernel_rfl) (by kernel_rfl) (fun _ _ _ h => h) (by rfl) hHeld ?_ ?_
            rotate_left
            · intro w
              go_simp
              try (with_reducible rfl)
            try simp only [Act.put, List.setIfInBounds_toArray, List.set_cons_zero, List.set_cons_succ]
            refine tl_p (i := 14) (v := ?_) rfl (by rfl) (by kernel_rfl) (by kernel_rfl) (by kernel_rfl) (fun _ _ _ h => h) (by rfl) hHeld ?_ ?_
            rotate_left
            · intro w
              go_simp
              try (with_reducible rfl)
            try simp only [Act.put, List.setIfInBounds_toArray, List.set_cons_zero, List.set_cons_succ]
            refine tl_p (i := 15) (v := ?_) rfl (by rfl) (by kernel_rfl) (by kernel_rfl) (by kernel_rfl) (fun _ _ _ h => h) (by rfl) hHeld ?_ ?_
            rotate_left
            · intro w
              go_simp
              try (with_reducible rfl)
            try simp only [Act.put, List.setIfInBounds_toArray, List.set_cons_zero, List.set_cons_succ]
            refine tl_p (i := 16) (v := ?_) rfl (by rfl) (by kernel_rfl) (by kernel_rfl) (by kernel_rfl) (fun _ _ _ h => h) (by rfl) hHeld ?_ ?_
            rotate_left
            · intro w
              go_simp
              try (with_reducible rfl)
            try simp only [Act.put, List.setIfInBounds_toArray, List.set_cons_zero, List.set_cons_succ]
            refine tl_p (i := 17) (v := ?_) rfl (by rfl) (by kernel_rfl) (by kernel_rfl) (by kernel_rfl) (fun _ _ _ h => h) (by rfl) hHeld ?_ ?_
            rotate_left
            · intro w
              go_simp
              try (with_reducible rfl)
            try simp only [Act.put, List.setIfInBounds_toArray, List.set_cons_zero, List.set_cons_succ]
            refine tl_p (i := 18) (v := ?_) rfl (by rfl) (by kernel_rfl) (by kernel_rfl) (by kernel_rfl) (fun _ _ _ h => h) (by rfl) hHeld ?_ ?_
            rotate_left
            · intro w
              go_simp
              try (with_reducible rfl)
            try simp only [Act.put, List.setIfInBounds_toArray, List.set_cons_zero, List.set_cons_succ]
            refine tl_p (i := 19) (v := ?_) rfl (by rfl) (by kernel_rfl) (by kernel_rfl) (by kernel_rfl) (fun _ _ _ h => h) (by rfl) hHeld ?_ ?_
            rotate_left
            · intro w
              go_simp
              try (with_reducible rfl)
            try simp only [Act.put, List.setIfInBounds_toArray, List.set_cons_zero, List.set_cons_succ]
            refine tl_p (i := 20) (v := ?_) rfl (by rfl) (by kernel_rfl) (by kernel_rfl) (by kernel_rfl) (fun _ _ _ h => h) (by rfl) hHeld ?_ ?_
            rotate_left
            · intro w
              go_simp
              try (with_reducible rfl)
            try simp only [Act.put, List.setIfInBounds_toArray, List.set_cons_zero, List.set_cons_succ]
            refine tl_w (i := 21) (v := ?_) rfl (by rfl) (by kernel_rfl) (by kernel_rfl) (by kernel_rfl) (by kernel_rfl) (by kernel_rfl) (fun _ _ _ h => h) (by rfl) hHeld ?_ ?_
            rotate_left
            · intro w hSw
              try dsimp only at hSw
              go_simp
              try (with_reducible rfl)
            try simp only [Act.put, List.setIfInBounds_toArray, List.set_cons_zero, List.set_cons_succ]
            refine tl_p (i := 23) (v := ?_) rfl (by rfl) (by kernel_rfl) (by kernel_rfl) (by kernel_rfl) (fun _ _ _ h => h) (by rfl) hHeld ?_ ?_
            rotate_left
            · intro w
              go_simp
              try (with_reducible rfl)
            try simp only [Act.put, List.setIfInBounds_toArray, List.set_cons_zero, List.set_cons_succ]
            refine tl_do (i := 22) rfl (by kernel_rfl) (by rfl) (fun K hK => ?_)
            go_simp
            go_at_call 92
            refine (hfm.out _ (View.below hv.out hd4.out)).mono ?_; rintro e w9 ⟨rfl, hw1⟩
            have hw2 := hw1.symm
            subst hw2
            clear hw1
            try go_wp2_with fail
            refine hK.out _ _ (hHeld) (fun hHeld1 => ?_)
            clear hK K hHeld
            have hHeld := hHeld1
            clear hHeld1
            try simp only [Act.put, List.setIfInBounds_toArray, List.set_cons_zero, List.set_cons_succ]
            refine tl_p (i := 24) (v := ?_) rfl (by rfl) (by kernel_rfl) (by kernel_rfl) (by kernel_rfl) (fun _ _ _ h => h) (by rfl) hHeld ?_ ?_
            rotate_left
            · intro w
              go_simp
              try (with_reducible rfl)
            try simp only [Act.put, List.setIfInBounds_toArray, List.set_cons_zero, List.set_cons_succ]
            refine tl_p (i := 25) (v := ?_) rfl (by rfl) (by kernel_rfl) (by kernel_rfl) (by kernel_rfl) (fun _ _ _ h => h) (by rfl) hHeld ?_ ?_
            rotate_left
            · intro w
              go_simp
              try (with_reducible rfl)
            try simp only [Act.put, List.setIfInBounds_toArray, List.set_cons_zero, List.set_cons_succ]
            refine till_done (by kernel_rfl) ?_ _
            clear hHeld
            go_wp2_with fail
            go_roundw
            case rel => exact ⟨k + 1, by omega, by go_num, hst.out, hb.trans (hd4.out.mono hb.size)⟩
            case measure => simp [intOf]; omega
    · go_wp2_with fail
      go_ret
      exact ⟨ret_bool (range_yes fun j hj => hall.out j (by omega)).symm, hb⟩

/-- In how many places a number of a message is. -/
def cnt (id : Int) (L : List Msg) : Nat := (L.filter (byId id)).length
theorem cnt_take {id : Int} {L : List Msg} {k : Nat} (hk : k < L.length) : cnt id (L.take (k + 1)) = cnt id (L.take k) + if L[k].id = id then 1 else 0 := by
  unfold cnt
  rw [List.take_succ_eq_append_getElem hk, List.filter_append, List.length_append]
  congr 1
  unfold byId
  by_cases h : L[k].id = id
  · rw [List.filter_cons_of_pos (by exact decide_eq_true h), if_pos h]; rfl
  · rw [List.filter_cons_of_neg (by simpa using h), if_neg h]; rfl
theorem cnt_le (id : Int) (L : List Msg) : cnt id L ≤ L.length := List.length_filter_le _ _
def tot (id : Int) (L : List Ob) : Nat := L.foldl (fun n o => n + cnt id o.msgs + cnt id o.dead) 0
theorem tot_take {id : Int} {L : List Ob} {k : Nat} (hk : k < L.length) : tot id (L.take (k + 1)) = tot id (L.take k) + cnt id L[k].msgs + cnt id L[k].dead := by
  unfold tot
  rw [List.take_succ_eq_append_getElem hk, List.foldl_append]
  rfl
def Ob.few (o : Ob) : Prop := o.rows.length ≤ 1000 ∧ o.msgs.length ≤ 1000 ∧ o.dead.length ≤ 1000
theorem tot_le {id : Int} {L : List Ob} (hf : ∀ o ∈ L, o.few) : ∀ k, k ≤ L.length → tot id (L.take k) ≤ 2000 * k
  | 0, _ => by simp [tot]
  | k + 1, h => by
    rw [tot_take (by omega)]
    have h1 := tot_le (id := id) hf k (by omega)
    have h2 := hf (L[k]'(by omega)) (List.getElem_mem _)
    have h3 := cnt_le id (L[k]'(by omega)).msgs
    have h4 := cnt_le id (L[k]'(by omega)).dead
    obtain ⟨_, h5, h6⟩ := h2
    omega
set_option maxRecDepth 100000 in
set_option maxHeartbeats 8000000 in
theorem total_any (w : World) (next : Int) (v : Value) (L : List Ob) (id : Int) (hL : VObs w v L) (hm : L.length ≤ 1000) (hf : ∀ o ∈ L, o.few) :
    Calls Try.prog 69 #[.agg #[.int .i64 next, v], .int .i64 id] w fun e w' => e = .returned (.int .i64 (tot id L)) ∧ Below w.heap.size w w' := by
  obtain ⟨A, cap, rfl, hc, _⟩ := hL.view.cells
  have hb0 : Below w.heap.size w (w.alloc (.cells #[.int .i64 next, .slice A L.length cap] 45)) := (Below.refl _ _).alloc (Nat.le_refl _) _
  have hbx := Whole.new w 45 #[.int .i64 next, .slice A L.length cap]
  have hlt0 : w.heap.size < (w.alloc (.cells #[.int .i64 next, .slice A L.length cap] 45)).heap.size := hbx.lt
  have hv0 := Lib.hid (hL.below hb0)
  replace hf := Lib.hid hf
  go_enter Try.func69, Try.ntmps69
  go_upto_region 3 with fail
  have c0 := hbx.cell 0
  have c1 := hbx.cell 1
  replace hb0 := Lib.hid hb0
  clear hbx hL
  generalize w.alloc (.cells #[.int .i64 next, .slice A L.length cap] 45) = W at *
  go_loop [5, 6] (fun a i => ∃ k : Nat, k ≤ L.length ∧ i = .int .i64 k ∧ a = .int .i64 (tot id (L.take k) : Nat)) (fun _ i => L.length - (intOf i).toNat)
  case atStart => exact ⟨0, by omega, rfl, rfl⟩
  case round =>
    obtain ⟨k, hk, rfl, rfl⟩ := hrel
    by_cases hlt : k < L.length
    · have q1 : (k : Int) < (L.length : Int) := by omega
      obtain ⟨b, off, cap', e, _, _, hbl, f⟩ := obs_at hv0.out (by omega)
      injection e with e1 e2 e3
      subst e1 e3
      obtain ⟨_, _, _, _, r4, r5⟩ := f k hlt
      clear f
      have hO := hv0.out.each _ (List.getElem_mem hlt)
      have hfw := hf.out _ (List.getElem_mem hlt)
      have htt := Lib.hid (tot_take (id := id) hlt)
      have htl := tot_le (id := id) hf.out k hk
      have hVm := hO.msgs
      have hVd := hO.dead
      obtain ⟨Am, cm, em, hcm, _⟩ := hVm.cells
      obtain ⟨Ad, cd, ed, hcd, _⟩ := hVd.cells
      rw [em] at r4 hVm
      rw [ed] at r5 hVd
      obtain ⟨_, hw1, hw2⟩ := hfw
      have hcm1 := cnt_le id L[k].msgs
      have hcd1 := cnt_le id L[k].dead
      replace hVm := Lib.hid hVm
      replace hVd := Lib.hid hVd
      clear hO em ed
      generalize L[k].msgs = LM at *
      generalize L[k].dead = LD at *
      generalize hT0 : tot id (L.take k) = T0 at *
      replace hT0 := Lib.hid hT0
      go_upto_region 6 with fail
      go_loop [5, 7] (fun a i => ∃ m : Nat, m ≤ LM.length ∧ i = .int .i64 m ∧ a = .int .i64 ((T0 + cnt id (LM.take m) : Nat) : Int)) (fun _ i => LM.length - (intOf i).toNat)
      case atStart => exact ⟨0, by omega, rfl, by first | (simp [cnt]; done) | (have h1 := hT1.out; unfold cnt at h1; simp [cnt]; omega)⟩
      case round =>
        obtain ⟨m, hm2, rfl, rfl⟩ := hrel
        by_cases hlt2 : m < LM.length
        · have q2 : (m : Int) < (LM.length : Int) := by omega
          obtain ⟨gb, go', gc, e, _, _, hgl, f⟩ := msgs_at hVm.out (by omega)
          injection e with e1 e2 e3
          subst e1
          obtain ⟨s0, _⟩ := f m hlt2
          have hct := cnt_take (id := id) hlt2
          have hcl := cnt_le id (LM.take m)
          rw [List.length_take] at hcl
          generalize LM[m].id = y at *
          clear f
          by_cases hy : y = id
          · subst hy
            rw [if_pos rfl] at hct
            have ew : IntKind.i64.wrap (((T0 + cnt y (LM.take m) : Nat) : Int) + 1) = ((T0 + cnt y (LM.take (m + 1)) : Nat) : Int) := by rw [IntKind.wrap_i64, hct]; omega
            replace hct := Lib.hid hct
            generalize hn1 : T0 + cnt y (LM.take m) = n1 at *
            generalize hn2 : T0 + cnt y (LM.take (m + 1)) = n2 at *
            replace hn1 := Lib.hid hn1
            replace hn2 := Lib.hid hn2
            go_wp2_with fail
            go_round
            case rel => exact ⟨m + 1, by omega, by go_num, by rw [hn2.out]⟩
            case measure => simp [intOf]; omega
          · have hy' : (y == id) = false := beq_eq_false_iff_ne.2 hy
            rw [if_neg hy, Nat.add_zero] at hct
            replace hct := Lib.hid hct
            generalize hn1 : T0 + cnt id (LM.take m) = n1 at *
            replace hn1 := Lib.hid hn1
            go_wp2_with fail
            go_round
            case rel => exact ⟨m + 1, by omega, by go_num, by rw [show T0 + cnt id (LM.take (m + 1)) = n1 by have h1 := hct.out; have h2 := hn1.out; omega]⟩
            case measure => simp [intOf]; omega
        · have hm3 : m = LM.length := by omega
          subst hm3
          rw [List.take_length]
          have q2 : ¬ (LM.length : Int) < (LM.length : Int) := by omega
          clear hm2 hlt2
          go_upto_region 11 with fail
          generalize hT1 : T0 + cnt id LM = T1 at *
          replace hT1 := Lib.hid hT1
          have hT1l : T1 ≤ 2000 * k + 1000 := by have := hT1.out; omega
          go_loop [5, 8] (fun a i => ∃ m : Nat, m ≤ LD.length ∧ i = .int .i64 m ∧ a = .int .i64 ((T1 + cnt id (LD.take m) : Nat) : Int)) (fun _ i => LD.length - (intOf i).toNat)
          case atStart => exact ⟨0, by omega, rfl, by first | (simp [cnt]; done) | (have h1 := hT1.out; unfold cnt at h1; simp [cnt]; omega)⟩
          case round =>
            obtain ⟨m, hm2, rfl, rfl⟩ := hrel
            by_cases hlt2 : m < LD.length
            · have q2 : (m : Int) < (LD.length : Int) := by omega
              obtain ⟨gb, go', gc, e, _, _, hgl, f⟩ := msgs_at hVd.out (by omega)
              injection e with e1 e2 e3
              subst e1
              obtain ⟨s0, _⟩ := f m hlt2
              have hct := cnt_take (id := id) hlt2
              have hcl := cnt_le id (LD.take m)
              rw [List.length_take] at hcl
              generalize LD[m].id = y at *
              clear f
              by_cases hy : y = id
              · subst hy
                rw [if_pos rfl] at hct
                have ew : IntKind.i64.wrap (((T1 + cnt y (LD.take m) : Nat) : Int) + 1) = ((T1 + cnt y (LD.take (m + 1)) : Nat) : Int) := by rw [IntKind.wrap_i64, hct]; omega
                replace hct := Lib.hid hct
                generalize hn1 : T1 + cnt y (LD.take m) = n1 at *
                generalize hn2 : T1 + cnt y (LD.take (m + 1)) = n2 at *
                replace hn1 := Lib.hid hn1
                replace hn2 := Lib.hid hn2
                go_wp2_with fail
                go_round
                case rel => exact ⟨m + 1, by omega, by go_num, by rw [hn2.out]⟩
                case measure => simp [intOf]; omega
              · have hy' : (y == id) = false := beq_eq_false_iff_ne.2 hy
                rw [if_neg hy, Nat.add_zero] at hct
                replace hct := Lib.hid hct
                generalize hn1 : T1 + cnt id (LD.take m) = n1 at *
                replace hn1 := Lib.hid hn1
                go_wp2_with fail
                go_round
                case rel => exact ⟨m + 1, by omega, by go_num, by rw [show T1 + cnt id (LD.take (m + 1)) = n1 by have h1 := hct.out; have h2 := hn1.out; omega]⟩
                case measure => simp [intOf]; omega
            · have hm3 : m = LD.length := by omega
              subst hm3
              rw [List.take_length]
              have q2 : ¬ (LD.length : Int) < (LD.length : Int) := by omega
              have hfin : T1 + cnt id LD = tot id (L.take (k + 1)) := by rw [htt.out, ← hT1.out]
              rw [hfin]
              clear hm2 hlt2
              go_wp2_with fail
              go_round
              case rel => exact ⟨k + 1, by omega, by go_num, rfl⟩
              case measure => simp [intOf]; omega
    · have hk3 : k = L.length := by omega
      subst hk3
      rw [List.take_length]
      have q2 : ¬ (L.length : Int) < (L.length : Int) := by omega
      go_wp2_with fail
      go_ret
      exact ⟨rfl, hb0.out⟩
end Go.Proofs.Ytegomkgfmaclkaa
