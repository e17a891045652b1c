/-
  Effects: their cells, slices of them; objects in a slice that is read; slices.IndexFunc of objects, state.Find; plain facts on a table's rows.
-/
import Derived.Test.YtegomkgfmaclkaaMs
import Derived.Test.YtegomkgfmaclkaaTa
import Derived.Test.YtegomkgfmaclkaaSl4
import Derived.Shelf.Abstract
set_option linter.unusedVariables false
set_option linter.unusedSimpArgs false
namespace Go.Proofs.Ytegomkgfmaclkaa
open Go.RowKit Go.Proofs.PosteOrd Go.Proofs.PosteMem

structure Ef where
  kind : Int
  obj : ByteArray
  key : ByteArray
  val : ByteArray
  n : Int
  limit : Int
  tried : Bool
  msg : Msg
def Ef.cells (x : Ef) : List Value := [.int .i64 x.kind, .string x.obj, .string x.key, .string x.val, .int .i64 x.n, .int .i64 x.limit, .bool x.tried, .int .i64 x.msg.id, .int .i64 x.msg.pri, .int .i64 x.msg.retry, .bool x.msg.claimed, .string x.msg.corr, .string x.msg.body]
theorem Ef.len (x : Ef) : x.cells.length = 13 := rfl
theorem Ef.one1 (x : Ef) : ∀ u ∈ x.cells, u.oneCell' = true := by
  intro u hx
  simp only [Ef.cells, List.mem_cons, List.not_mem_nil, or_false] at hx
  rcases hx with rfl | rfl | rfl | rfl | rfl | rfl | rfl | rfl | rfl | rfl | rfl | rfl | rfl <;> rfl
theorem Ef.one (L : List Ef) : ∀ u ∈ L.flatMap Ef.cells, u.oneCell' = true := by
  intro u hu
  obtain ⟨x, _, hx⟩ := List.mem_flatMap.1 hu
  exact Ef.one1 x u hx
def zEf : Value := .agg #[.int .i64 0, .string ⟨#[]⟩, .string ⟨#[]⟩, .string ⟨#[]⟩, .int .i64 0, .int .i64 0, .bool false, .int .i64 0, .int .i64 0, .int .i64 0, .bool false, .string ⟨#[]⟩, .string ⟨#[]⟩]
theorem infoEf : (Try.prog.info? 50).map (fun i => (i.zero, i.size, i.bytes)) = some (some zEf, 13, 144) := by kernel_rfl
/-- A slice of effects that is read. -/
def VEfs (w : World) (v : Value) (L : List Ef) : Prop := View w 13 v L.length (L.flatMap Ef.cells)
/-- A slice of effects in a row of cells of its own. -/
def OEfs (w : World) (B : Nat) (v : Value) (L : List Ef) : Prop := w.ownsRow B 50 13 v L.length (L.flatMap Ef.cells)
theorem OEfs.view {w : World} {B : Nat} {v : Value} {L : List Ef} (h : OEfs w B v L) : VEfs w v L := View.of_own h
theorem efs_at {w : World} {v : Value} {L : List Ef} (h : VEfs w v L) (hn : 0 < L.length) : ∃ b off cap, v = .slice (some ⟨b, off, none⟩) L.length cap ∧ L.length ≤ cap ∧ cap ≤ maxLen ∧ b < w.heap.size ∧
    ∀ (k : Nat) (hk : k < L.length), w.cell? ⟨b, off + k * 13, none⟩ = some (.int .i64 L[k].kind) ∧ w.cell? ⟨b, off + k * 13 + 1, none⟩ = some (.string L[k].obj) ∧ w.cell? ⟨b, off + k * 13 + 2, none⟩ = some (.string L[k].key) ∧
      w.cell? ⟨b, off + k * 13 + 3, none⟩ = some (.string L[k].val) ∧ w.cell? ⟨b, off + k * 13 + 4, none⟩ = some (.int .i64 L[k].n) ∧ w.cell? ⟨b, off + k * 13 + 5, none⟩ = some (.int .i64 L[k].limit) ∧ w.cell? ⟨b, off + k * 13 + 6, none⟩ = some (.bool L[k].tried) ∧
      w.cell? ⟨b, off + k * 13 + 7, none⟩ = some (.int .i64 L[k].msg.id) ∧ w.cell? ⟨b, off + k * 13 + 8, none⟩ = some (.int .i64 L[k].msg.pri) ∧ w.cell? ⟨b, off + k * 13 + 9, none⟩ = some (.int .i64 L[k].msg.retry) ∧
      w.cell? ⟨b, off + k * 13 + 10, none⟩ = some (.bool L[k].msg.claimed) ∧ w.cell? ⟨b, off + k * 13 + 11, none⟩ = some (.string L[k].msg.corr) ∧ w.cell? ⟨b, off + k * 13 + 12, none⟩ = some (.string L[k].msg.body) := by
  obtain ⟨b, off, cap, e, h1, h2, h3, h4⟩ := View.elems Ef.cells Ef.len h (by decide) hn
  exact ⟨b, off, cap, e, h1, h2, h3, fun k hk => ⟨h4 k hk 0 _ rfl, h4 k hk 1 _ rfl, h4 k hk 2 _ rfl, h4 k hk 3 _ rfl, h4 k hk 4 _ rfl, h4 k hk 5 _ rfl, h4 k hk 6 _ rfl, h4 k hk 7 _ rfl, h4 k hk 8 _ rfl, h4 k hk 9 _ rfl, h4 k hk 10 _ rfl, h4 k hk 11 _ rfl, h4 k hk 12 _ rfl⟩⟩
theorem efs_snoc {w : World} {B : Nat} {v : Value} {M : List Ef} {x : Ef} (h : w.ownsRow B 50 13 v (M.length + 1) (M.flatMap Ef.cells ++ x.cells)) : OEfs w B v (M ++ [x]) := by
  unfold OEfs
  rw [List.length_append, List.length_singleton, List.flatMap_append, List.flatMap_cons, List.flatMap_nil, List.append_nil]
  exact h

/-- An object of api, with the values of its slices. -/
structure Ob where
  name : ByteArray
  kind : Int
  limit : Int
  rows : List Row
  msgs : List Msg
  dead : List Msg
  r : Value
  m : Value
  d : Value
def Ob.cells (o : Ob) : List Value := [.string o.name, .int .i64 o.kind, .int .i64 o.limit, o.r, o.m, o.d]
theorem Ob.len (x : Ob) : x.cells.length = 6 := rfl
structure VOb (w : World) (o : Ob) : Prop where
  rows : VRows w o.r o.rows
  msgs : VMsgs w o.m o.msgs
  dead : VMsgs w o.d o.dead
theorem VOb.below {w w' : World} {o : Ob} (h : VOb w o) (hb : Below w.heap.size w w') : VOb w' o := ⟨View.below h.rows hb, View.below h.msgs hb, View.below h.dead hb⟩
/-- A slice of objects that is read. -/
structure VObs (w : World) (v : Value) (L : List Ob) : Prop where
  view : View w 6 v L.length (L.flatMap Ob.cells)
  each : ∀ o ∈ L, VOb w o
theorem VObs.below {w w' : World} {v : Value} {L : List Ob} (h : VObs w v L) (hb : Below w.heap.size w w') : VObs w' v L := ⟨View.below h.view hb, fun o ho => (h.each o ho).below hb⟩
theorem VObs.nil (w : World) : VObs w (.slice none 0 0) [] := ⟨View.nil _ _, fun _ h => by cases h⟩
theorem obs_at {w : World} {v : Value} {L : List Ob} (h : VObs w v L) (hn : 0 < L.length) : ∃ b off cap, v = .slice (some ⟨b, off, none⟩) L.length cap ∧ L.length ≤ cap ∧ cap ≤ maxLen ∧ b < w.heap.size ∧
    ∀ (k : Nat) (hk : k < L.length), w.cell? ⟨b, off + k * 6, none⟩ = some (.string L[k].name) ∧ w.cell? ⟨b, off + k * 6 + 1, none⟩ = some (.int .i64 L[k].kind) ∧ w.cell? ⟨b, off + k * 6 + 2, none⟩ = some (.int .i64 L[k].limit) ∧
      w.cell? ⟨b, off + k * 6 + 3, none⟩ = some L[k].r ∧ w.cell? ⟨b, off + k * 6 + 4, none⟩ = some L[k].m ∧ w.cell? ⟨b, off + k * 6 + 5, none⟩ = some L[k].d := by
  obtain ⟨b, off, cap, e, h1, h2, h3, h4⟩ := View.elems Ob.cells Ob.len h.view (by decide) hn
  exact ⟨b, off, cap, e, h1, h2, h3, fun k hk => ⟨h4 k hk 0 _ rfl, h4 k hk 1 _ rfl, h4 k hk 2 _ rfl, h4 k hk 3 _ rfl, h4 k hk 4 _ rfl, h4 k hk 5 _ rfl⟩⟩

/-- The first place of which p holds; -1: there is none. -/
def idxA {α : Type} (p : α → Bool) (L : List α) : Int := if L.findIdx p < L.length then L.findIdx p else -1
theorem idxA_at {α : Type} {p : α → Bool} {L : List α} {k : Nat} (hk : k < L.length) (h : p L[k] = true) (hn : ∀ j (hj : j < L.length), j < k → p L[j] = false) : idxA p L = k := by
  have e : L.findIdx p = k := by
    rw [List.findIdx_eq hk]
    exact ⟨h, fun j hj => hn j (by omega) hj⟩
  unfold idxA
  rw [e, if_pos hk]
theorem idxA_none {α : Type} {p : α → Bool} {L : List α} (hn : ∀ j (hj : j < L.length), p L[j] = false) : idxA p L = -1 := by
  have e : L.findIdx p = L.length := List.findIdx_eq_length.2 fun x hx => by
    obtain ⟨j, hj, rfl⟩ := List.getElem_of_mem hx
    exact hn j hj
  unfold idxA
  rw [e, if_neg (Nat.lt_irrefl _)]
theorem idxA_cases {α : Type} (p : α → Bool) (L : List α) : (∃ k, ∃ hk : k < L.length, idxA p L = k ∧ p L[k] = true ∧ L.find? p = some L[k]) ∨ (idxA p L = -1 ∧ L.find? p = none) := by
  by_cases h : L.findIdx p < L.length
  · refine .inl ⟨L.findIdx p, h, by unfold idxA; rw [if_pos h], List.findIdx_getElem (w := h), ?_⟩
    rw [List.find?_eq_some_iff_getElem]
    exact ⟨List.findIdx_getElem (w := h), L.findIdx p, h, rfl, fun j hj => by simpa using List.not_of_lt_findIdx hj⟩
  · refine .inr ⟨by unfold idxA; rw [if_neg h], ?_⟩
    rw [List.find?_eq_none]
    intro x hx hp
    exact h (List.findIdx_lt_length_of_exists ⟨x, hx, hp⟩)

set_option maxHeartbeats 2000000 in
theorem oindexFunc_any (p : Ob → Bool) (g : Nat) (lb : Array Value) (eg : ∀ (args : Array Value) (w : World), (callFunc g args).run Try.prog w = .ok (.enter g args) w) (w : World) (v : Value) (L : List Ob) (hv : VObs w v L) (hm : L.length ≤ 1000000)
    (hp : ∀ (W : World) (x : Ob), Below w.heap.size w W → Calls Try.prog g (#[.agg x.cells.toArray] ++ lb) W fun e w' => e = .returned (.bool (p x)) ∧ Below w.heap.size w w') :
    Calls Try.prog 108 #[v, .func (.func g) #[] lb] w fun e w' => e = .returned (.int .i64 (idxA p L)) ∧ Below w.heap.size w w' := by
  obtain ⟨A, cap, rfl, hc, _⟩ := hv.view.cells
  replace hv := Lib.hid hv
  replace hp := Lib.hid hp
  go_enter Try.func108, Try.ntmps108
  go_wp2_with fail
  go_loopw [5, 8] (fun _ i wr => ∃ k : Nat, k ≤ L.length ∧ i = .int .i64 k ∧ (∀ j (hj : j < L.length), j < k → p L[j] = false) ∧ Below w.heap.size w wr) (fun _ i _ => L.length - (intOf i).toNat)
  case atStart => exact ⟨0, by omega, rfl, fun j _ h => by omega, Below.refl _ _⟩
  case round =>
    obtain ⟨k, hk, rfl, hall, hb⟩ := hrel
    replace hall := Lib.hid hall
    by_cases hlt : k < L.length
    · have q1 : (k : Int) < (L.length : Int) := by omega
      obtain ⟨b, off, cap', e, _, _, hbl, f⟩ := obs_at (hv.out.below hb) (by omega)
      injection e with e1 e2 e3
      subst e1 e3
      obtain ⟨p0, p1, p2, p3, p4, p5⟩ := f k hlt
      clear f
      have hst : p L[k] = false → ∀ j (hj : j < L.length), j < k + 1 → p L[j] = false := fun h9 j hj hjk => by
        rcases Nat.lt_or_ge j k with h8 | h8
        · exact hall.out j hj h8
        · obtain rfl : j = k := by omega
          exact h9
      have hhit : p L[k] = true → idxA p L = k := fun h9 => idxA_at hlt h9 hall.out
      replace hst := Lib.hid hst
      replace hhit := Lib.hid hhit
      generalize L[k] = x at *
      cases hq : p x with
      | true =>
        rw [hq] at hhit
        replace hq := Lib.hid hq
        go_wp2_with fail
        refine (hp.out _ x hb).mono ?_; rintro e w4 ⟨rfl, hb4⟩; rw [hq.out]
        go_wp2_with fail
        go_ret
        exact ⟨ret_int (hhit.out (by trivial)).symm, hb4⟩
      | false =>
        rw [hq] at hst
        replace hq := Lib.hid hq
        go_wp2_with fail
        refine (hp.out _ x hb).mono ?_; rintro e w4 ⟨rfl, hb4⟩; rw [hq.out]
        go_wp2_with fail
        go_roundw
        case rel => exact ⟨k + 1, by omega, by go_num, hst.out (by trivial), hb4⟩
        case measure => simp [intOf]; omega
    · go_wp2_with fail
      go_ret
      exact ⟨ret_int (idxA_none fun j hj => hall.out j hj (by omega)).symm, hb⟩

theorem str_eq {a b : ByteArray} : a.toList = b.toList ↔ a = b := by
  constructor
  · intro h
    rw [ByteArray.toList_eq, ByteArray.toList_eq] at h
    exact ByteArray.ext (Array.toList_inj.mp h)
  · exact fun h => by rw [h]
theorem str_beq (a b : ByteArray) : (a.toList == b.toList) = decide (a = b) := by
  rw [Bool.eq_iff_iff, beq_iff_eq, decide_eq_true_iff, str_eq]
theorem str_ne {a b : ByteArray} (h : ¬ a = b) : (a.toList == b.toList) = false := by rw [str_beq]; exact decide_eq_false h
def isO (name : ByteArray) (x : Ob) : Bool := decide (x.name = name)
set_option maxHeartbeats 2000000 in
theorem sfind_any (w : World) (next : Int) (v : Value) (L : List Ob) (name : ByteArray) (hv : VObs w v L) (hm : L.length ≤ 1000000) :
    Calls Try.prog 88 #[.agg #[.int .i64 next, v], .string name] w fun e w' => e = .returned (.int .i64 (idxA (isO name) L)) ∧ Below w.heap.size w w' := by
  have eg := Go.Proofs.enters_of Try.func109 (by kernel_rfl) rfl
  have hcl : ∀ (W1 : World) (g : Nat), Whole W1 g 9 #[.string name] → ∀ (W : World) (x : Ob), Below W1.heap.size W1 W → Calls Try.prog 109 (#[.agg x.cells.toArray] ++ #[.pointer (some ⟨g, 0, none⟩)]) W fun e w' => e = .returned (.bool (isO name x)) ∧ Below W1.heap.size W1 w' := by
    intro W1 g hg W x hb
    have hc := (hg.below hb).cell 0
    have hlt : g < W.heap.size := (hg.below hb).lt
    have hb2 := hb.alloc hb.size (.cells x.cells.toArray 42)
    obtain ⟨n1, k1, l1, _, _, _, r1, m1, d1⟩ := x
    unfold Ob.cells at hb2 ⊢
    unfold isO
    simp only at hb2 ⊢
    clear hb hg
    go_enter Try.func109, Try.ntmps109
    go_wp2
    go_ret
    exact ⟨by rw [str_beq]; rfl, hb2⟩
  obtain ⟨A, cap, rfl, hc, _⟩ := hv.view.cells
  have hb0 : Below w.heap.size w ((w.alloc (.cells #[.int .i64 next, .slice A L.length cap] 45)).alloc (.cells #[.string name] 9)) := ((Below.refl _ _).alloc (Nat.le_refl _) _).alloc (by simp) _
  have hg := Whole.new (w.alloc (.cells #[.int .i64 next, .slice A L.length cap] 45)) 9 #[.string name]
  rw [show (w.alloc (.cells #[.int .i64 next, .slice A L.length cap] 45)).heap.size = w.heap.size + 1 by simp] at hg
  have hix := oindexFunc_any (isO name) 109 #[.pointer (some ⟨w.heap.size + 1, 0, none⟩)] eg _ _ L (hv.below hb0) hm (hcl _ _ hg)
  replace hix := Lib.hid hix
  replace hb0 := Lib.hid hb0
  clear hcl hg hv
  go_enter Try.func88, Try.ntmps88
  go_wp2_with (go_at_call 108; refine hix.out.mono ?_; rintro e w4 ⟨rfl, hb4⟩)
  go_ret
  exact ⟨rfl, below_then hb0.out hb4⟩
/-- What rows have at a key. -/
def look (L : List Row) (key : ByteArray) : Option ByteArray := (L.find? fun r => decide (r.key = key)).map Row.val
theorem look_nil (key : ByteArray) : look [] key = none := rfl
theorem look_cons (z : Row) (L : List Row) (key : ByteArray) : look (z :: L) key = if z.key = key then some z.val else look L key := by
  unfold look
  rw [List.find?_cons]
  by_cases h : z.key = key
  · rw [if_pos h, decide_eq_true h]; rfl
  · rw [if_neg h, decide_eq_false h]
theorem lt_ne {a b : ByteArray} (h : lt a b) : a ≠ b := fun e => by subst e; exact lt_irrefl _ h
theorem look_none {L : List Row} {key : ByteArray} (h : ∀ r ∈ L, lt key r.key) : look L key = none := by
  induction L with
  | nil => rfl
  | cons z L ih => rw [look_cons, if_neg (fun e => lt_ne (h z List.mem_cons_self) e.symm), ih fun r hr => h r (List.mem_cons_of_mem _ hr)]
theorem cmp_key {a b : ByteArray} (h : cmpL a.toList b.toList = 0) : a = b := str_eq.1 (cmpL_eq.1 h)
theorem lt_or {a b : ByteArray} (h : ¬ lt a b) (h2 : ¬ cmpL a.toList b.toList = 0) : lt b a := by
  unfold lt at h ⊢
  rw [cmpL_swap]
  omega
theorem look_put (L : List Row) (x : Row) (key : ByteArray) : look (putS L x) key = if x.key = key then some x.val else look L key := by
  induction L with
  | nil => rw [putS_nil, look_cons]
  | cons z L ih =>
    rw [putS_cons]
    by_cases h1 : lt z.key x.key
    · rw [if_pos h1, look_cons, look_cons, ih]
      by_cases h2 : z.key = key
      · rw [if_pos h2, if_pos h2, if_neg (fun e => lt_ne h1 (h2.trans e.symm))]
      · rw [if_neg h2, if_neg h2]
    · rw [if_neg h1]
      by_cases h3 : cmpL z.key.toList x.key.toList = 0
      · rw [if_pos h3, look_cons, look_cons]
        have := cmp_key h3
        by_cases h4 : x.key = key
        · rw [if_pos h4, if_pos h4]
        · rw [if_neg h4, if_neg h4, if_neg (by rw [this]; exact h4)]
      · rw [if_neg h3, look_cons]
theorem look_cut {L : List Row} (hs : Srt L) (k key : ByteArray) : look (cutS L k) key = if k = key then none else look L key := by
  induction L with
  | nil => rw [cutS_nil, look_nil, ite_self]
  | cons z L ih =>
    obtain ⟨hz, hs'⟩ := List.pairwise_cons.1 hs
    rw [cutS_cons]
    by_cases h1 : lt z.key k
    · rw [if_pos h1, look_cons, look_cons, ih hs']
      by_cases h2 : z.key = key
      · rw [if_pos h2, if_pos h2, if_neg (fun e => lt_ne h1 (h2.trans e.symm))]
      · rw [if_neg h2, if_neg h2]
    · rw [if_neg h1]
      by_cases h3 : cmpL z.key.toList k.toList = 0
      · rw [if_pos h3, look_cons]
        have := cmp_key h3
        by_cases h4 : k = key
        · rw [if_pos h4, look_none (fun r hr => by rw [← h4, ← this]; exact hz r hr)]
        · rw [if_neg h4, if_neg (by rw [this]; exact h4)]
      · rw [if_neg h3]
        have hlt := lt_or h1 h3
        by_cases h4 : k = key
        · rw [if_pos h4, look_none]
          intro r hr
          subst h4
          rcases List.mem_cons.1 hr with rfl | hr
          · exact hlt
          · exact lt_trans hlt (hz r hr)
        · rw [if_neg h4]
theorem look_hit {L : List Row} (hs : Srt L) (key : ByteArray) : hit L key = (look L key).isSome ∧ ∀ (h : pos L key < L.length), hit L key = true → L[pos L key].val = (look L key).getD ⟨#[]⟩ := by
  induction L with
  | nil => exact ⟨by rw [hit_nil, look_nil]; rfl, fun h => absurd h (Nat.not_lt_zero _)⟩
  | cons z L ih =>
    obtain ⟨hz, hs'⟩ := List.pairwise_cons.1 hs
    obtain ⟨i1, i2⟩ := ih hs'
    rw [hit_cons, look_cons]
    by_cases h1 : lt z.key key
    · rw [if_pos h1, if_neg (lt_ne h1)]
      refine ⟨i1, fun h hh => ?_⟩
      have hp : pos (z :: L) key = pos L key + 1 := by rw [pos_cons, if_pos h1]
      simp only [hp, List.getElem_cons_succ]
      rw [hp] at h
      exact i2 (by simpa using h) hh
    · rw [if_neg h1]
      have hp : pos (z :: L) key = 0 := by rw [pos_cons, if_neg h1]
      by_cases h3 : cmpL z.key.toList key.toList = 0
      · rw [if_pos (cmp_key h3), decide_eq_true h3]
        refine ⟨rfl, fun h _ => ?_⟩
        simp only [hp, List.getElem_cons_zero]
        rfl
      · have hlt := lt_or h1 h3
        rw [if_neg (fun e => lt_ne hlt e.symm), decide_eq_false h3, look_none (fun r hr => lt_trans hlt (hz r hr))]
        exact ⟨rfl, fun _ h => by cases h⟩
/-- The rows that a transaction's effect leaves of a table's. -/
def tab1 (name : ByteArray) (L : List Row) (e : Ef) : List Row := if e.obj = name then if e.kind = 2 then putS L ⟨e.key, e.val⟩ else if e.kind = 3 then cutS L e.key else L else L
def baseR (L : List Ob) (name : ByteArray) : List Row := ((L.find? (isO name)).map Ob.rows).getD []
/-- What a transaction sees of a table. -/
def tab (L : List Ob) (E : List Ef) (name : ByteArray) : List Row := E.foldl (tab1 name) (baseR L name)
theorem tab1_srt {name : ByteArray} {L : List Row} {e : Ef} (h : Srt L) : Srt (tab1 name L e) := by
  unfold tab1
  split
  · split
    · exact putS_srt h
    · split
      · exact cutS_srt h _
      · exact h
  · exact h
theorem tabs_srt {name : ByteArray} {L : List Row} (E : List Ef) (h : Srt L) : Srt (E.foldl (tab1 name) L) := by
  induction E generalizing L with
  | nil => exact h
  | cons e E ih => exact ih (tab1_srt h)
theorem tab1_len (name : ByteArray) (L : List Row) (e : Ef) : (tab1 name L e).length ≤ L.length + 1 := by
  unfold tab1
  split
  · split
    · rw [putS_len]; split <;> omega
    · split
      · rw [cutS_len]; split <;> omega
      · omega
  · omega
theorem tabs_len (name : ByteArray) (L : List Row) (E : List Ef) : (E.foldl (tab1 name) L).length ≤ L.length + E.length := by
  induction E generalizing L with
  | nil => exact Nat.le_refl _
  | cons e E ih =>
    have h1 := ih (tab1 name L e)
    have h2 := tab1_len name L e
    rw [List.foldl_cons, List.length_cons]
    omega
theorem tabs_take {name : ByteArray} {L : List Row} {E : List Ef} {k : Nat} (hk : k < E.length) : (E.take (k + 1)).foldl (tab1 name) L = tab1 name ((E.take k).foldl (tab1 name) L) E[k] := by
  rw [List.take_succ_eq_append_getElem hk, List.foldl_append]
  rfl

end Go.Proofs.Ytegomkgfmaclkaa
