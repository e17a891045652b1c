/-
  A log in memory, beside its disk: what it is, and what each store and each call on the disk leaves of it.
-/
import Derived.Test.YtbfcaapompkjhaaGd
set_option linter.unusedVariables false
set_option linter.unusedSimpArgs false
namespace Go.Proofs.Ytbfcaapompkjhaa
open Go.RowKit Go.Proofs.PosteMem

theorem hd_upd {w W W' : World} {p : Nat} {D : Dk} {C S : Nat → Prop} (h : Hd w W p D C) (k : Upd S W W') (hS : ∀ b, S b → C b ∧ w.heap.size ≤ b) : Hd w W' p D (fun b => C b ∨ (W.heap.size ≤ b ∧ b < W'.heap.size)) := by
  obtain ⟨F, h1, h2, h3, h4⟩ := h
  have hs := k.size
  refine ⟨F, h1.upd k (fun b hF hSb => (h2 b hF).2.2 (hS b hSb).1), fun b hF => ?_, fun b hb => ?_, h4.trans (k.below h4.size fun b hb => (hS b hb).2)⟩
  · have := h2 b hF
    exact ⟨this.1, by omega, fun hc => by rcases hc with hc | hc; exact this.2.2 hc; omega⟩
  · rcases hb with hb | hb
    · have := h3 b hb; omega
    · exact hb.2
theorem hd_in {w W : World} {p : Nat} {D : Dk} {C : Nat → Prop} (h : Hd w W p D C) {b : Nat} (hb : C b) : b < W.heap.size := by
  obtain ⟨F, h1, h2, h3, h4⟩ := h
  exact h3 b hb

structure Lg where
  at' : Int
  en : Int
  nx : Int
  ep : Int
  recs : List (List Int)
  failed : Bool
def Lg.cells (g : Lg) (p : Nat) (v : Value) : Array Value := #[.pointer (some ⟨p, 0, none⟩), .int .i64 g.at', .int .i64 g.en, .int .i64 g.nx, .int .i64 g.ep, v, .bool g.failed]
/-- The records' slices. -/
structure Rs (W : World) (q : Nat) (v : Value) (M : Nat → Prop) (hs : List Value) (L : List (List Int)) : Prop where
  len : hs.length = L.length
  view : ∀ i (h1 : i < hs.length) (h2 : i < L.length), VB W hs[i] L[i]
  own : ∀ i (h1 : i < hs.length) x, blockOf hs[i] = some x → x ≠ q ∧ v.ownBlock ≠ some x ∧ M x
structure LoAt (w W : World) (p q : Nat) (D : Dk) (g : Lg) (K : Nat → Prop) (v : Value) (hs : List Value) (M : Nat → Prop) : Prop where
  hd : Hd w W p D (fun b => K b ∨ M b)
  apart : ∀ b, M b → w.heap.size ≤ b ∧ ¬ K b
  mq : M q
  mv : ∀ b, v.ownBlock = some b → M b
  box : Whole W q 88 (g.cells p v)
  row : W.ownsRow w.heap.size 27 1 v g.recs.length hs
  rs : Rs W q v M hs g.recs
/-- A disk at p and a log on it at q, that the call w -> W made; K: the caller's own blocks. -/
def Lo (w W : World) (p q : Nat) (D : Dk) (g : Lg) (K : Nat → Prop) : Prop := ∃ v hs M, LoAt w W p q D g K v hs M
section
variable {w W W' : World} {p q : Nat} {D D' : Dk} {g : Lg} {K : Nat → Prop} {v : Value} {hs : List Value} {M : Nat → Prop}
theorem Rs.keep {L : List (List Int)} {S : Nat → Prop} (h : Rs W q v M hs L) (k : Upd S W W') (hS : ∀ b, M b → b ≠ q → v.ownBlock ≠ some b → ¬ S b) : Rs W' q v M hs L :=
  ⟨h.len, fun i h1 h2 => View.upd (h.view i h1 h2) k (fun b hb => by have := h.own i h1 b hb; exact hS b this.2.2 this.1 this.2.1), h.own⟩
theorem Rs.one {L : List (List Int)} (h : Rs W q v M hs L) : ∀ u ∈ hs, u.oneCell' = true := by
  intro u hu
  obtain ⟨i, hi, rfl⟩ := List.getElem_of_mem hu
  obtain ⟨A, cap, e, _⟩ := (h.view i hi (by rw [← h.len]; exact hi)).cells
  rw [e]
  rfl
theorem LoAt.acc (h : LoAt w W p q D g K v hs M) : Below w.heap.size w W := h.hd.acc
theorem LoAt.below (h : LoAt w W p q D g K v hs M) (k : Below W.heap.size W W') : LoAt w W' p q D g K v hs M :=
  ⟨h.hd.below k, h.apart, h.mq, h.mv, h.box.below k, own_below h.row k, h.rs.keep (Upd.of_below (S := fun _ => False) k) fun _ _ _ _ t => t⟩
theorem Lo.acc (h : Lo w W p q D g K) : Below w.heap.size w W := let ⟨_, _, _, h⟩ := h; h.acc
theorem Lo.below (h : Lo w W p q D g K) (k : Below W.heap.size W W') : Lo w W' p q D g K := let ⟨v, hs, M, h⟩ := h; ⟨v, hs, M, h.below k⟩
theorem Lo.mono {K' : Nat → Prop} (h : Lo w W p q D g K) (hK : ∀ b, K' b → K b) : Lo w W p q D g K' := by
  obtain ⟨v, hs, M, h⟩ := h
  exact ⟨v, hs, M, h.hd.mono fun b hb => hb.imp (hK b) id, fun b hb => ⟨(h.apart b hb).1, fun hc => (h.apart b hb).2 (hK b hc)⟩, h.mq, h.mv, h.box, h.row, h.rs⟩
theorem Lo.client (h : Lo w W p q D g K) (k : Below W.heap.size W W') : Lo w W' p q D g (fun b => K b ∨ (W.heap.size ≤ b ∧ b < W'.heap.size)) := by
  obtain ⟨v, hs, M, h⟩ := h
  refine ⟨v, hs, M, (h.hd.client k).mono fun b hb => ?_, fun b hb => ⟨(h.apart b hb).1, fun hc => ?_⟩, h.mq, h.mv, h.box.below k, own_below h.row k, h.rs.keep (Upd.of_below (S := fun _ => False) k) fun _ _ _ _ t => t⟩
  · rcases hb with (hb | hb) | hb
    · exact .inl (.inl hb)
    · exact .inr hb
    · exact .inl (.inr hb)
  · rcases hc with hc | hc
    · exact (h.apart b hb).2 hc
    · have := hd_in h.hd (b := b) (.inr hb); omega
/-- Behind a call on the disk. -/
theorem LoAt.disk (h : LoAt w W p q D g K v hs M) (hd : Hd w W' p D' (fun b => K b ∨ M b)) (k : Keeps (fun b => K b ∨ M b) W W') : LoAt w W' p q D' g K v hs M := by
  obtain ⟨S, k1, k2⟩ := k
  exact ⟨hd, h.apart, h.mq, h.mv, h.box.upd k1 (k2 q (.inr h.mq)), own_upd h.row k1 (fun b hb => k2 b (.inr (h.mv b hb))), h.rs.keep k1 fun b hb _ _ => k2 b (.inr hb)⟩
theorem keeps_left {C C' : Nat → Prop} (k : Keeps (fun b => C b ∨ C' b) W W') : Keeps C W W' := k.mono fun b hb => .inl hb
theorem LoAt.mq_ne (h : LoAt w W p q D g K v hs M) : v.ownBlock ≠ some q := own_ne_whole h.row h.box (by decide)
/-- A cell of the log's box, other than the records', is stored. -/
theorem LoAt.store (h : LoAt w W p q D g K v hs M) {g' : Lg} (i : Nat) (u : Value) (hc : (g.cells p v).setIfInBounds i u = g'.cells p v) (hr : g'.recs = g.recs) : LoAt w (W.setCell ⟨q, i, none⟩ u) p q D g' K v hs M ∧ Keeps K W (W.setCell ⟨q, i, none⟩ u) := by
  have hu : Upd (fun b => b = q) W (W.setCell ⟨q, i, none⟩ u) := (Upd.refl (fun b => b = q) W).setCell (p := ⟨q, i, none⟩) (.inr rfl) u
  refine ⟨⟨h.hd.store (a := ⟨q, i, none⟩) (.inr h.mq) (h.apart q h.mq).1 u, h.apart, h.mq, h.mv, ?_, ?_, ?_⟩, ⟨_, hu, fun b hb e => by subst e; exact (h.apart _ h.mq).2 hb⟩⟩
  · have := h.box.set i u
    rw [hc] at this
    exact this
  · rw [hr]
    exact own_setCell h.row h.mq_ne u
  · rw [hr]
    exact h.rs.keep hu fun b _ hb _ e => hb e
/-- What is made beside it is the log's. -/
theorem LoAt.grow (h : LoAt w W p q D g K v hs M) (k : Below W.heap.size W W') : LoAt w W' p q D g K v hs (fun b => M b ∨ (W.heap.size ≤ b ∧ b < W'.heap.size)) := by
  refine ⟨(h.hd.client k).mono fun b hb => ?_, fun b hb => ?_, .inl h.mq, fun b hb => .inl (h.mv b hb), h.box.below k, own_below h.row k, ?_⟩
  · rcases hb with hb | hb | hb
    · exact .inl (.inl hb)
    · exact .inl (.inr hb)
    · exact .inr hb
  · rcases hb with hb | hb
    · exact h.apart b hb
    · exact ⟨by have := h.acc.size; omega, fun hk => by have := hd_in h.hd (b := b) (.inl hk); omega⟩
  · have := h.rs.keep (Upd.of_below (S := fun _ => False) k) fun _ _ _ _ t => t
    exact ⟨this.len, this.view, fun i h1 x hx => ⟨(this.own i h1 x hx).1, (this.own i h1 x hx).2.1, .inl (this.own i h1 x hx).2.2⟩⟩
/-- A record is appended. -/
theorem LoAt.add (h : LoAt w W p q D g K v hs M) {v' hd' : Value} {b : List Int} (hg : W.grownBy W' v.ownBlock) (ho : W'.ownsRow w.heap.size 27 1 v' (g.recs.length + 1) (hs ++ [hd']))
    (hat : v'.ownBlock = v.ownBlock ∨ v'.ownBlock = some W.heap.size) (hv : VB W' hd' b) (hx : ∀ x, blockOf hd' = some x → x ≠ q ∧ v.ownBlock ≠ some x ∧ M x) :
    LoAt w (W'.setCell ⟨q, 5, none⟩ v') p q D { g with recs := g.recs ++ [b] } K v' (hs ++ [hd']) (fun b => M b ∨ (W.heap.size ≤ b ∧ b < W'.heap.size)) ∧ Keeps K W (W'.setCell ⟨q, 5, none⟩ v') := by
  have hup : Upd (fun b => v.ownBlock = some b) W W' := Upd.of_grown hg (fun _ e => e)
  have hlt := fun b (hb : M b) => hd_in h.hd (b := b) (.inr hb)
  have hql := hlt q h.mq
  have hne := h.mq_ne
  have hbox : Whole W' q 88 (g.cells p v) := h.box.grown hg hne
  have hne' : v'.ownBlock ≠ some q := own_ne_whole ho hbox (by decide)
  have hu2 : Upd (fun b => b = q) W' (W'.setCell ⟨q, 5, none⟩ v') := (Upd.refl (fun b => b = q) W').setCell (p := ⟨q, 5, none⟩) (.inr rfl) v'
  have hd1 := hd_upd h.hd hup fun b hb => ⟨.inr (h.mv b hb), (h.apart b (h.mv b hb)).1⟩
  have hd2 := hd1.mono (C' := fun b => K b ∨ (M b ∨ (W.heap.size ≤ b ∧ b < W'.heap.size))) fun b hb => by
    rcases hb with hb | hb | hb
    · exact .inl (.inl hb)
    · exact .inl (.inr hb)
    · exact .inr hb
  have hmv' : ∀ b, v'.ownBlock = some b → M b ∨ (W.heap.size ≤ b ∧ b < W'.heap.size) := fun b hb => by
    rcases hat with e | e
    · exact .inl (h.mv b (e ▸ hb))
    · rw [e] at hb
      injection hb with hb
      subst hb
      exact .inr ⟨Nat.le_refl _, (ho.lt _ e).2⟩
  have hold : ∀ b, M b → v.ownBlock ≠ some b → v'.ownBlock ≠ some b := fun b hb hn e => by
    rcases hat with e2 | e2
    · exact hn (e2 ▸ e)
    · rw [e2] at e
      injection e with e
      have := hlt b hb
      omega
  refine ⟨⟨hd2.store (a := ⟨q, 5, none⟩) (.inr (.inl h.mq)) (h.apart q h.mq).1 v', fun b hb => ?_, .inl h.mq, hmv', hbox.set 5 v', ?_, ?_⟩, ⟨fun b => v.ownBlock = some b ∨ b = q, ?_, fun b hb hS => ?_⟩⟩
  · rcases hb with hb | hb
    · exact h.apart b hb
    · exact ⟨by have := h.acc.size; omega, fun hk => by have := hd_in h.hd (b := b) (.inl hk); omega⟩
  · simp only [List.length_append, List.length_singleton]
    exact own_setCell ho hne' v'
  · refine ⟨by simp [h.rs.len], fun i h1 h2 => ?_, fun i h1 x hx2 => ?_⟩
    · by_cases hi : i < hs.length
      · rw [List.getElem_append_left hi, List.getElem_append_left (by rw [← h.rs.len]; exact hi)]
        have o := h.rs.own i hi
        refine View.upd (View.upd (h.rs.view i hi (by rw [← h.rs.len]; exact hi)) hup fun b hb e => (o b hb).2.1 e) hu2 fun b hb e => (o b hb).1 e
      · have e : i = hs.length := by simp at h1; omega
        subst e
        have e2 : hs.length = g.recs.length := h.rs.len
        rw [List.getElem_append_right (Nat.le_refl _), List.getElem_append_right (by omega)]
        simp only [Nat.sub_self, e2, List.getElem_cons_zero]
        exact View.upd hv hu2 fun b hb e => (hx b hb).1 e
    · by_cases hi : i < hs.length
      · rw [List.getElem_append_left hi] at hx2
        have o := h.rs.own i hi x hx2
        exact ⟨o.1, hold x o.2.2 o.2.1, .inl o.2.2⟩
      · have e : i = hs.length := by simp at h1; omega
        subst e
        rw [List.getElem_append_right (Nat.le_refl _)] at hx2
        simp only [Nat.sub_self, List.getElem_cons_zero] at hx2
        have o := hx x hx2
        exact ⟨o.1, hold x o.2.2 o.2.1, .inl o.2.2⟩
  · exact (hup.mono fun b _ e => .inl e).trans hu2 fun b _ e => .inr e
  · rcases hS with e | e
    · exact (h.apart b (h.mv b e)).2 hb
    · subst e; exact (h.apart _ h.mq).2 hb
end
end Go.Proofs.Ytbfcaapompkjhaa
