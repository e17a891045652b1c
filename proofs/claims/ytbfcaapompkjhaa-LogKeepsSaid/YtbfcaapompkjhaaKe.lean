/-
  LogKeeps: plain: the elder epoch's log, the log that a crash cuts; the row of texts that the law keeps.
-/
import Derived.Test.YtbfcaapompkjhaaKd
import Derived.Test.YtbfcaapompkjhaaGj
set_option linter.unusedVariables false
namespace Go.Proofs.Ytbfcaapompkjhaa
open Go.RowKit Go.Proofs.PosteMem

theorem lputR_few {D : Dk} (h : D.ok) (g : Lg) (b : List Int) : (lputR D g b).1.ok ∧ (lputR D g b).1.written ≤ D.written + need b.length + 2 ∧ (lputR D g b).1.uns.length ≤ D.uns.length + need b.length + 2 ∧ (lputR D g b).1.now.length = D.now.length ∧ (Fit D → byteL b → Fit (lputR D g b).1) := by
  obtain ⟨a1, a2, a3⟩ := put_few h (g.nx + 1) b
  have a4 := put_len D (g.nx + 1) b
  have a5 := fun (hF : Fit D) (hbb : byteL b) => hF.put (g.nx + 1) hbb
  unfold lputR
  generalize D.put (g.nx + 1) b = P1 at *
  split
  · exact ⟨a3, by dsimp only; omega, by dsimp only; omega, a4, a5⟩
  have hz : (zeroR P1.1 g b).1.ok ∧ (zeroR P1.1 g b).1.written ≤ P1.1.written + 1 ∧ (zeroR P1.1 g b).1.uns.length ≤ P1.1.uns.length + 1 ∧ (zeroR P1.1 g b).1.now.length = P1.1.now.length ∧ (Fit P1.1 → Fit (zeroR P1.1 g b).1) := by
    unfold zeroR
    split
    · have w := write_few P1.1 (g.nx + 1 + needI b.length) z64
      exact ⟨write_ok a3 _ _, w.1, w.2, write_len _ _ _, fun hF => hF.write _ (by unfold z64; exact fillL_byteL 64 (by decide))⟩
    · exact ⟨a3, by dsimp only; omega, by dsimp only; omega, rfl, id⟩
  generalize zeroR P1.1 g b = P2 at *
  obtain ⟨b1, b2, b3, b4, b5⟩ := hz
  split
  · exact ⟨b1, by dsimp only; omega, by dsimp only; omega, by dsimp only; omega, fun x y => b5 (a5 x y)⟩
  have c1 := sync_ok b1
  obtain ⟨c2, c3⟩ := sync_few P2.1
  have c4 := len_sync P2.1
  have c5 := fun (hF : Fit P2.1) => hF.sync
  generalize P2.1.sync = P3 at *
  split
  · exact ⟨c1, by dsimp only; omega, by dsimp only; omega, by dsimp only; omega, fun x y => c5 (b5 (a5 x y))⟩
  have d1 := write_ok c1 g.nx (headB g.ep (g.recs.length + 1) b.length)
  obtain ⟨d2, d3⟩ := write_few P3.1 g.nx (headB g.ep (g.recs.length + 1) b.length)
  have d4 := write_len P3.1 g.nx (headB g.ep (g.recs.length + 1) b.length)
  have d5 := fun (hF : Fit P3.1) => hF.write g.nx (headB_byteL g.ep (g.recs.length + 1) b.length)
  generalize P3.1.write g.nx (headB g.ep (g.recs.length + 1) b.length) = P4 at *
  split
  · exact ⟨d1, by dsimp only; omega, by dsimp only; omega, by dsimp only; omega, fun x y => d5 (c5 (b5 (a5 x y)))⟩
  obtain ⟨e2, e3⟩ := sync_few P4.1
  exact ⟨sync_ok d1, by omega, by omega, by rw [len_sync]; omega, fun x y => (d5 (c5 (b5 (a5 x y)))).sync⟩
theorem lputD_same {D : Dk} {g : Lg} {b : List Int} (h : Free (lputD D g b)) : (lputD D g b).sure = (lputD D g b).now := by
  unfold lputD at h ⊢
  generalize ((zeroD (D.put (g.nx + 1) b).1 g b).sync.1.write g.nx (headB g.ep (g.recs.length + 1) b.length)).1 = X at *
  cases hb : X.broken with
  | false => rw [sync_yes hb]
  | true =>
    rw [sync_not hb] at h
    have := h.broken
    simp only at this
    rw [hb] at this
    cases this
abbrev g7 : Lg := ⟨2, 52, 2, 7, [], false⟩
/-- The elder epoch's log, of k records. -/
structure El (D : Dk) (g : Lg) (k : Nat) : Prop where
  free : Free D
  fit : Fit D
  len : D.now.length = 60
  uns : D.uns = []
  same : D.sure = D.now
  few : D.written ≤ 10 * k
  en : g.en = 52
  nx : g.nx = 2 + 3 * k
  ep : g.ep = 6
  ok : g.failed = false
  recs : g.recs.length = k
  head : D.read 2 = z64 ∨ ∃ n s : Int, D.read 2 = headB 6 n s ∧ -9223372036854775808 ≤ s ∧ s < 9223372036854775808
theorem El.zero {g : Lg} (h : Opens (Dk.new 60) ⟨2, 52, 2, 6, [], false⟩ g) : El (Dk.new 60) g 0 := by
  have h2 : (Dk.new 60).read 2 = z64 := by
    rw [read_get]
    rfl
  have hn : lnext (Dk.new 60) ⟨2, 52, 2, 6, [], false⟩ = none := lnext_no fun hh => by
    simp only at hh
    rw [h2] at hh
    exact head_not_zero _ _ _ hh.symm
  obtain rfl := opens_none h hn
  exact ⟨free_new 60 (by decide), Fit.new 60, new_len 60, rfl, rfl, by simp [Dk.new], rfl, rfl, rfl, rfl, rfl, .inl h2⟩
theorem El.small {D : Dk} {g : Lg} {k : Nat} (h : El D g k) (hk : k ≤ 12) : Small g := ⟨by rw [h.en]; decide, by rw [h.en]; decide, by rw [h.nx]; omega, by rw [h.nx]; omega, by rw [h.recs]; omega⟩
theorem El.fits {D : Dk} {g : Lg} {k : Nat} (h : El D g k) (hk : k < 12) {b : List Int} (hb : b.length = 128) : fitsB g.en g.nx b.length = true := by
  have h1 := h.en
  have h2 := h.nx
  have h3 : needI (b.length : Int) = 2 := by rw [hb]; decide
  exact fitsB_iff.2 ⟨by omega, by omega⟩
theorem El.next {D : Dk} {g : Lg} {k : Nat} (h : El D g k) (hk : k < 12) {b : List Int} (hb : b.length = 128) (hbb : byteL b) : El (lputD D g b) (g.with b b.length) (k + 1) := by
  have hf := h.fits hk hb
  have h1 := h.en
  have h2 := h.nx
  have h3 : needI (b.length : Int) = 2 := by rw [hb]; decide
  have h4 : need b.length = 2 := by rw [hb]; decide
  have P := lput_facts h.free (g := g) (b := b) (by omega) hf (by rw [h.len]; omega) (by omega)
  have hw := P.few
  have hw2 := h.few
  refine ⟨P.free, P.fit h.fit hbb, by rw [P.len, h.len], P.uns, lputD_same P.free, by omega, h.en, ?_, h.ep, h.ok, ?_, ?_⟩
  · unfold Lg.with; simp only; omega
  · unfold Lg.with; simp only [List.length_append, List.length_singleton, h.recs]
  · by_cases hk0 : k = 0
    · have hx : g.nx = 2 := by omega
      right
      have := P.head
      rw [hx, h.ep] at this
      exact ⟨_, _, this, by omega, by omega⟩
    · have := P.stay 2 (by omega)
      rw [this]
      exact h.head
theorem El.whol {D : Dk} {g : Lg} {k : Nat} (h : El D g k) : Whol D := ⟨h.free.ok, h.uns, h.same⟩
theorem El.none {D : Dk} {g : Lg} {k : Nat} (h : El D g k) : lnext D g7 = none := lnext_no fun hh => by
  simp only at hh
  rcases h.head with h1 | ⟨n, s, h1, h2, h3⟩
  · rw [h1] at hh
    exact head_not_zero _ _ _ hh.symm
  · have e1 := (head_back 6 n s (by decide) ⟨h2, h3⟩).1
    have e2 := (head_back 7 (([] : List (List Int)).length + 1) (lsz (D.read 2)) (by decide) (wrap64_range _)).1
    rw [← hh, h1, e1] at e2
    cases e2

/-- The log that a crash will cut, of k records. -/
structure Kp (D : Dk) (g : Lg) (k : Nat) : Prop where
  whol : Whol D
  fit : Fit D
  len : D.now.length = 60
  few : D.written ≤ 200 + 20 * k
  en : g.en = 52
  nx0 : 2 ≤ g.nx
  nx1 : g.nx ≤ 52
  ep : g.ep = 7
  ok : g.failed = false
  recs : g.recs.length = k
  short : ∀ b ∈ g.recs, b.length ≤ 255
  reach : Reach D g7 g
  stops : Stops D g
/-- What a crash leaves: L, or one more. -/
structure Left (D : Dk) (L : List (List Int)) (x : List Int) : Prop where
  ok : D.ok
  fit : Fit D
  len : D.now.length = 60
  few : D.uns.length ≤ 1000
  many : L.length ≤ 12
  short : ∀ b ∈ L ++ [x], b.length ≤ 255
  said : ∀ kp g, Opens (D.crash kp) g7 g → g.recs = L ∨ g.recs = L ++ [x]
theorem Kp.small {D : Dk} {g : Lg} {k : Nat} (h : Kp D g k) (hk : k ≤ 12) : Small g := ⟨by rw [h.en]; decide, by rw [h.en]; decide, by have := h.nx0; omega, by have := h.nx1; omega, by rw [h.recs]; omega⟩
theorem Kp.zero {D : Dk} {g g' : Lg} {k : Nat} (h : El D g k) (hk : k ≤ 12) (ho : Opens D g7 g') (n : Int) (hn : n < 9223372036854775808) : g' = g7 ∧ Kp (D.brk n) g7 0 := by
  refine ⟨opens_none ho h.none, ?_⟩
  have hb : (D.brk n).now = D.now ∧ (D.brk n).sure = D.sure ∧ (D.brk n).uns = D.uns ∧ (D.brk n).written = D.written := by
    unfold Dk.brk
    split <;> exact ⟨rfl, rfl, rfl, rfl⟩
  obtain ⟨b1, b2, b3, b4⟩ := hb
  have hf := h.few
  refine ⟨⟨brk_ok h.free.ok hn, by rw [b3, h.uns], by rw [b2, b1, h.same]⟩, h.fit.brk n, by rw [b1, h.len], by omega, rfl, by decide, by decide, rfl, rfl, rfl, fun b hb => (by cases hb), .refl _, .inr ?_⟩
  have hr : (D.brk n).read 2 = D.read 2 := read_of_now b1 2
  have := Stops.congr (D' := D.brk n) (g := g7) (.inr h.none) hr
  rcases this with t | t
  · exact absurd t (by decide)
  · exact t
theorem Kp.none {D : Dk} {g : Lg} {k : Nat} (h : Kp D g k) (hk : k ≤ 12) (x : List Int) (hx : x.length ≤ 255) : Left D g.recs x ∧ ∀ kp g', Opens (D.crash kp) g7 g' → g'.recs = g.recs := by
  have hs : ∀ kp g', Opens (D.crash kp) g7 g' → g'.recs = g.recs := fun kp g' ho => by
    rw [opens_same ho (keep_crash h.whol h.reach h.stops (by decide) kp)]
  refine ⟨⟨h.whol.ok, h.fit, h.len, by rw [h.whol.uns]; simp, by rw [h.recs]; exact hk, fun b hb => ?_, fun kp g' ho => .inl (hs kp g' ho)⟩, hs⟩
  rcases List.mem_append.1 hb with hb | hb
  · exact h.short b hb
  · rw [List.mem_singleton] at hb; subst hb; exact hx
theorem Kp.next {D : Dk} {g : Lg} {k : Nat} (h : Kp D g k) (hk : k < 12) {b : List Int} (hb : b.length ≤ 255) (hbb : byteL b) (hf : fitsB g.en g.nx b.length = true) :
    ((lputR D g b).2 = true ∧ Kp (lputR D g b).1 (g.with b b.length) (k + 1)) ∨ ((lputR D g b).2 = false ∧ Left (lputR D g b).1 g.recs b) := by
  have h1 := h.en
  have h2 := h.nx0
  have h3 := h.nx1
  obtain ⟨f1, f2⟩ := fitsB_iff.1 hf
  have hnn := needI_nn (n := (b.length : Int))
  obtain ⟨a1, a2, a3, a4, a5⟩ := lputR_few h.whol.ok g b
  have h4 : need b.length ≤ 4 := by unfold need; omega
  have hw := h.few
  have hu : D.uns.length = 0 := by rw [h.whol.uns]; rfl
  rcases keep_step (g0 := g7) (b := b) h.whol h.reach h.stops (by rw [h.ep]; decide) (by omega) (by rw [h.len]; omega) hf (by omega) (by decide) with ⟨s1, s2, s3, s4, s5⟩ | ⟨s1, s2⟩
  · refine .inl ⟨s1, s2, a5 h.fit hbb, by rw [s3, h.len], by omega, h.en, ?_, ?_, h.ep, h.ok, ?_, fun b' hb' => ?_, s4, s5⟩
    · unfold Lg.with; simp only; omega
    · unfold Lg.with; simp only; omega
    · unfold Lg.with; simp only [List.length_append, List.length_singleton, h.recs]
    · unfold Lg.with at hb'
      simp only at hb'
      rcases List.mem_append.1 hb' with hb' | hb'
      · exact h.short b' hb'
      · rw [List.mem_singleton] at hb'; subst hb'; exact hb
  · refine .inr ⟨s1, a1, a5 h.fit hbb, by rw [a4, h.len], by omega, by rw [h.recs]; omega, fun b' hb' => ?_, fun kp g' ho => ?_⟩
    · rcases List.mem_append.1 hb' with hb' | hb'
      · exact h.short b' hb'
      · rw [List.mem_singleton] at hb'; subst hb'; exact hb
    · rcases s2 kp with t | t
      · exact .inl (by rw [opens_same ho t])
      · exact .inr (by rw [opens_same ho t]; rfl)

/-- What is done to the client's own blocks. -/
theorem Lo.upd {w W W' : World} {p q : Nat} {D : Dk} {g : Lg} {K S : Nat → Prop} (h : Lo w W p q D g K) (k : Upd S W W') (hS : ∀ b, S b → K b ∧ w.heap.size ≤ b) : Lo w W' p q D g (fun b => K b ∨ (W.heap.size ≤ b ∧ b < W'.heap.size)) := by
  obtain ⟨v, hs, M, h⟩ := h
  have hM : ∀ b, M b → ¬ S b := fun b hb hSb => (h.apart b hb).2 (hS b hSb).1
  refine ⟨v, hs, M, (hd_upd h.hd k fun b hb => ⟨.inl (hS b hb).1, (hS b hb).2⟩).mono fun b hb => ?_, fun b hb => ⟨(h.apart b hb).1, fun hc => ?_⟩, h.mq, h.mv, h.box.upd k (hM q h.mq), own_upd h.row k (fun b hb => hM b (h.mv b hb)), h.rs.keep k fun b hb _ _ => hM b hb⟩
  · rcases hb with (hb | hb) | hb
    · exact .inl (.inl hb)
    · exact .inr hb
    · exact .inl (.inr hb)
  · rcases hc with hc | hc
    · exact (h.apart b hb).2 hc
    · have := hd_in h.hd (b := b) (.inr hb); omega
/-- A row of texts of the call w -> W, all in the blocks K. -/
def DR (w W : World) (K : Nat → Prop) (v : Value) (L : List (List Int)) : Prop := ∃ hs, W.ownsRow w.heap.size 27 1 v L.length hs ∧ hs.length = L.length ∧ (∀ i (h1 : i < hs.length) (h2 : i < L.length), VB W hs[i] L[i]) ∧ (∀ x, v.ownBlock = some x → K x) ∧ ∀ i (h1 : i < hs.length) x, blockOf hs[i] = some x → v.ownBlock ≠ some x ∧ K x
theorem DR.vl {w W : World} {K : Nat → Prop} {v : Value} {L : List (List Int)} (h : DR w W K v L) : VL W v L := by
  obtain ⟨hs, h1, h2, h3, _⟩ := h
  exact ⟨hs, View.of_own h1, h2, h3⟩
theorem DR.nil (w W : World) (K : Nat → Prop) : DR w W K (.slice none 0 0) [] := ⟨[], World.ownsRow_nil _ _ _ _, rfl, fun i h1 => (by cases h1), fun x hx => (by cases hx), fun i h1 => (by cases h1)⟩
theorem DR.keep {w W W' : World} {K : Nat → Prop} {v : Value} {L : List (List Int)} (h : DR w W K v L) (k : Keeps K W W') : DR w W' K v L := by
  obtain ⟨hs, h1, h2, h3, h4, h5⟩ := h
  exact ⟨hs, k.own h1 h4, h2, fun i a b => k.view (h3 i a b) fun x hx => (h5 i a x hx).2, h4, h5⟩
theorem DR.mono {w W : World} {K K' : Nat → Prop} {v : Value} {L : List (List Int)} (h : DR w W K v L) (hK : ∀ b, K b → K' b) : DR w W K' v L := by
  obtain ⟨hs, h1, h2, h3, h4, h5⟩ := h
  exact ⟨hs, h1, h2, h3, fun x hx => hK x (h4 x hx), fun i a x hx => ⟨(h5 i a x hx).1, hK x (h5 i a x hx).2⟩⟩
theorem DR.add {w W W' : World} {K : Nat → Prop} {v v' hd : Value} {L : List (List Int)} {b : List Int} {hs : List Value} (h2 : hs.length = L.length) (h3 : ∀ i (h1 : i < hs.length) (h2 : i < L.length), VB W hs[i] L[i]) (h4 : ∀ x, v.ownBlock = some x → K x) (h5 : ∀ i (h1 : i < hs.length) x, blockOf hs[i] = some x → v.ownBlock ≠ some x ∧ K x) (hKl : ∀ x, K x → x < W.heap.size)
    (hg : W.grownBy W' v.ownBlock) (ho : W'.ownsRow w.heap.size 27 1 v' (L.length + 1) (hs ++ [hd])) (hat : v'.ownBlock = v.ownBlock ∨ v'.ownBlock = some W.heap.size) (hv : VB W hd b) (hx : ∀ x, blockOf hd = some x → v.ownBlock ≠ some x ∧ K x) : DR w W' (fun b => K b ∨ (W.heap.size ≤ b ∧ b < W'.heap.size)) v' (L ++ [b]) := by
  have hup : Upd (fun b => v.ownBlock = some b) W W' := Upd.of_grown hg (fun _ e => e)
  have hne : ∀ x, v.ownBlock ≠ some x → K x → v'.ownBlock ≠ some x := fun x hn hl e => by
    rcases hat with e2 | e2
    · exact hn (e2 ▸ e)
    · rw [e2] at e; injection e with e; have := hKl x hl; omega
  refine ⟨hs ++ [hd], by simpa using ho, by simp [h2], fun i a c => ?_, fun x hx => ?_, fun i a x hx2 => ?_⟩
  · by_cases hi : i < hs.length
    · rw [List.getElem_append_left hi, List.getElem_append_left (by omega)]
      exact View.upd (h3 i hi (by omega)) hup fun b hb e => (h5 i hi b hb).1 e
    · have e : i = hs.length := by simp at a; omega
      subst e
      rw [List.getElem_append_right (Nat.le_refl _), List.getElem_append_right (by omega)]
      simp only [Nat.sub_self, h2, List.getElem_cons_zero]
      exact View.upd hv hup fun b hb e => (hx b hb).1 e
  · rcases hat with e2 | e2
    · exact .inl (h4 x (e2 ▸ hx))
    · rw [e2] at hx; injection hx with hx; subst hx
      exact .inr ⟨Nat.le_refl _, (ho.lt _ e2).2⟩
  · by_cases hi : i < hs.length
    · rw [List.getElem_append_left hi] at hx2
      have o := h5 i hi x hx2
      exact ⟨hne x o.1 o.2, .inl o.2⟩
    · have e : i = hs.length := by simp at a; omega
      subst e
      rw [List.getElem_append_right (Nat.le_refl _)] at hx2
      simp only [Nat.sub_self, List.getElem_cons_zero] at hx2
      have o := hx x hx2
      exact ⟨hne x o.1 o.2, .inl o.2⟩
end Go.Proofs.Ytbfcaapompkjhaa
