/-
  A disk in memory: its box, its three rows, its sectors' bytes; what each store leaves of it.
-/
import Derived.Test.YtbfcaapompkjhaaDa
set_option linter.unusedVariables false
set_option linter.unusedSimpArgs false
namespace Go.Proofs.Ytbfcaapompkjhaa
open Go.RowKit Go.Proofs.PosteMem

/-- What a disk is. -/
structure Dk where
  sure : List (List Int)
  now : List (List Int)
  uns : List (Nat × List Int)
  left : Int
  broken : Bool
  written : Nat
theorem infoWr : (Try.prog.info? 79).map (fun i => (i.zero, i.size, i.bytes)) = some (some (.agg #[.int .i64 0, .slice none 0 0]), 2, 32) := by kernel_rfl
def wc (x : Nat × Value) : List Value := [.int .i64 x.1, x.2]
theorem wc_len (x : Nat × Value) : (wc x).length = 2 := rfl

/-- The blocks of bytes are kept. -/
def NotB (W : World) (b : Nat) : Prop := ¬ ∃ cs, W.heap[b]? = some (.cells cs 5 (0, 0))
def KeepB (W W' : World) : Prop := Upd (NotB W) W W'
theorem KeepB.refl (W : World) : KeepB W W := Upd.refl _ _
theorem KeepB.trans {W W1 W2 : World} (h : KeepB W W1) (k : KeepB W1 W2) : KeepB W W2 :=
  Upd.trans h k fun b hb hn ⟨cs, hc⟩ => hn ⟨cs, (h.block b hb (fun n => n ⟨cs, hc⟩)).trans hc⟩
theorem KeepB.of_below {W W' : World} (h : Below W.heap.size W W') : KeepB W W' := Upd.of_below h
theorem KeepB.of_upd {S : Nat → Prop} {W W' : World} (h : Upd S W W') (hS : ∀ b, S b → NotB W b) : KeepB W W' := h.mono fun b _ hs => hS b hs
theorem notB_whole {W : World} {g : Nat} {t : TypeId} {cs : Array Value} (h : Whole W g t cs) (ht : t ≠ 5) : NotB W g := fun ⟨cs', hc⟩ => by
  unfold Whole at h
  rw [h] at hc
  injection hc with hc
  injection hc with _ ht'
  exact ht ht'
theorem notB_own {W : World} {B : Nat} {t : TypeId} {sz n g : Nat} {v : Value} {xs : List Value} (h : W.ownsRow B t sz v n xs) (hg : v.ownBlock = some g) (ht : t ≠ 5) : NotB W g := fun ⟨cs', hc⟩ => by
  rcases h.2 with ⟨rfl, _⟩ | ⟨g', cap, cur, rfl, _, h3, _⟩
  · cases hg
  · injection hg with hg
    subst hg
    rw [h3] at hc
    injection hc with hc
    injection hc with _ ht'
    exact ht ht'
theorem own_keepB {W W' : World} {B : Nat} {v : Value} {bs : List Int} (h : OB W B v bs) (k : KeepB W W') : OB W' B v bs :=
  own_upd h k fun b hb hn => by
    rcases h.2 with ⟨rfl, _⟩ | ⟨g', cap, cur, rfl, _, h3, _⟩
    · cases hb
    · injection hb with hb
      subst hb
      exact hn ⟨cur, h3⟩

/-- Bytes of a sector, in a block of F that nobody turns. -/
def Dt (W : World) (F : Nat → Prop) (h : Value) (bs : List Int) : Prop := ∃ g c, h = .slice (some ⟨g, 0, none⟩) bs.length c ∧ F g ∧ OB W 0 h bs
theorem Dt.keep {W W' : World} {F : Nat → Prop} {h : Value} {bs : List Int} (hd : Dt W F h bs) (k : KeepB W W') : Dt W' F h bs := by
  obtain ⟨g, c, e, hF, ho⟩ := hd
  exact ⟨g, c, e, hF, own_keepB ho k⟩
theorem Dt.mono {W : World} {F F' : Nat → Prop} {h : Value} {bs : List Int} (hd : Dt W F h bs) (k : ∀ b, b < W.heap.size → F b → F' b) : Dt W F' h bs := by
  obtain ⟨g, c, rfl, hF, ho⟩ := hd
  exact ⟨g, c, rfl, k g (own_lt ho rfl).2 hF, ho⟩
theorem Dt.upd {S : Nat → Prop} {W W' : World} {F : Nat → Prop} {h : Value} {bs : List Int} (hd : Dt W F h bs) (k : Upd S W W') (hS : ∀ b, F b → ¬ S b) : Dt W' F h bs := by
  obtain ⟨g, c, rfl, hF, ho⟩ := hd
  exact ⟨g, c, rfl, hF, own_upd ho k (fun b hb => by injection hb with hb; subst hb; exact hS _ hF)⟩
theorem Dt.one {W : World} {F : Nat → Prop} {h : Value} {bs : List Int} (hd : Dt W F h bs) : h.oneCell' = true := by
  obtain ⟨g, c, rfl, _⟩ := hd
  rfl
/-- Row by row. -/
def Hs (W : World) (F : Nat → Prop) (hs : List Value) (L : List (List Int)) : Prop := hs.length = L.length ∧ ∀ i (h1 : i < hs.length) (h2 : i < L.length), Dt W F hs[i] L[i]
section
variable {W W' : World} {F F' : Nat → Prop} {hs : List Value} {L : List (List Int)}
theorem Hs.keep (h : Hs W F hs L) (k : KeepB W W') : Hs W' F hs L := ⟨h.1, fun i h1 h2 => (h.2 i h1 h2).keep k⟩
theorem Hs.mono (h : Hs W F hs L) (k : ∀ b, b < W.heap.size → F b → F' b) : Hs W F' hs L := ⟨h.1, fun i h1 h2 => (h.2 i h1 h2).mono k⟩
theorem Hs.upd {S : Nat → Prop} (h : Hs W F hs L) (k : Upd S W W') (hS : ∀ b, F b → ¬ S b) : Hs W' F hs L := ⟨h.1, fun i h1 h2 => (h.2 i h1 h2).upd k hS⟩
theorem Hs.one (h : Hs W F hs L) : ∀ u ∈ hs, u.oneCell' = true := by
  intro u hu
  obtain ⟨i, hi, rfl⟩ := List.getElem_of_mem hu
  exact (h.2 i hi (h.1 ▸ hi)).one
theorem Hs.set (h : Hs W F hs L) (k : Nat) {v : Value} {b : List Int} (hd : Dt W F v b) : Hs W F (hs.set k v) (L.set k b) := by
  refine ⟨by simp [h.1], fun i h1 h2 => ?_⟩
  by_cases e : k = i
  · subst e
    simpa using hd
  · rw [List.getElem_set_ne e, List.getElem_set_ne e]
    exact h.2 i (by simpa using h1) (by simpa using h2)
theorem Hs.nil : Hs W F [] [] := ⟨rfl, fun i h1 _ => by cases h1⟩
theorem Hs.snoc (h : Hs W F hs L) {v : Value} {b : List Int} (hd : Dt W F v b) : Hs W F (hs ++ [v]) (L ++ [b]) := by
  refine ⟨by simp [h.1], fun i h1 h2 => ?_⟩
  by_cases e : i < hs.length
  · rw [List.getElem_append_left e, List.getElem_append_left (h.1 ▸ e)]
    exact h.2 i e (h.1 ▸ e)
  · have e2 : i = hs.length := by simp at h1; omega
    subst e2
    rw [List.getElem_append_right (Nat.le_refl _), List.getElem_append_right (by rw [h.1]; exact Nat.le_refl _)]
    simpa [h.1] using hd
end

/-- A disk lies here. -/
structure DAt (W : World) (F : Nat → Prop) (p : Nat) (vs vn vu : Value) (hs hn : List Value) (hu : List (Nat × Value)) (D : Dk) : Prop where
  box : Whole W p 75 #[vs, vn, vu, .int .i64 D.left, .bool D.broken, .int .i64 D.written]
  sure : W.ownsRow 0 27 1 vs D.sure.length hs
  now : W.ownsRow 0 27 1 vn D.now.length hn
  uns : W.ownsRow 0 79 2 vu D.uns.length (hu.flatMap wc)
  hsure : Hs W F hs D.sure
  hnow : Hs W F hn D.now
  huns : Hs W F (hu.map (·.2)) (D.uns.map (·.2))
  hat : hu.map (·.1) = D.uns.map (·.1)
  apart : ∀ b, vs.ownBlock = some b → vn.ownBlock ≠ some b
  fp : F p
  fs : ∀ b, vs.ownBlock = some b → F b
  fn : ∀ b, vn.ownBlock = some b → F b
  fu : ∀ b, vu.ownBlock = some b → F b
section
variable {W W' : World} {F F' : Nat → Prop} {p : Nat} {vs vn vu : Value} {hs hn : List Value} {hu : List (Nat × Value)} {D : Dk}
theorem DAt.upd {S : Nat → Prop} (h : DAt W F p vs vn vu hs hn hu D) (k : Upd S W W') (hS : ∀ b, F b → ¬ S b) : DAt W' F p vs vn vu hs hn hu D :=
  ⟨h.box.upd k (hS p h.fp), own_upd h.sure k (fun b e => hS b (h.fs b e)), own_upd h.now k (fun b e => hS b (h.fn b e)), own_upd h.uns k (fun b e => hS b (h.fu b e)), h.hsure.upd k hS, h.hnow.upd k hS, h.huns.upd k hS, h.hat, h.apart, h.fp, h.fs, h.fn, h.fu⟩
theorem DAt.below (h : DAt W F p vs vn vu hs hn hu D) (k : Below W.heap.size W W') : DAt W' F p vs vn vu hs hn hu D := h.upd (S := fun _ => False) (Upd.of_below k) (fun _ _ t => t)
theorem DAt.mono (h : DAt W F p vs vn vu hs hn hu D) (k : ∀ b, b < W.heap.size → F b → F' b) : DAt W F' p vs vn vu hs hn hu D :=
  ⟨h.box, h.sure, h.now, h.uns, h.hsure.mono k, h.hnow.mono k, h.huns.mono k, h.hat, h.apart, k p h.box.lt h.fp, fun b e => k b (own_lt h.sure e).2 (h.fs b e), fun b e => k b (own_lt h.now e).2 (h.fn b e), fun b e => k b (own_lt h.uns e).2 (h.fu b e)⟩
/-- A store into the box's last three cells. -/
theorem DAt.setBox (h : DAt W F p vs vn vu hs hn hu D) (k : Nat) (u : Value) {D' : Dk} (h1 : D'.sure = D.sure) (h2 : D'.now = D.now) (h3 : D'.uns = D.uns)
    (hb : (#[vs, vn, vu, Value.int .i64 D.left, .bool D.broken, .int .i64 D.written] : Array Value).setIfInBounds k u = #[vs, vn, vu, .int .i64 D'.left, .bool D'.broken, .int .i64 D'.written]) :
    DAt (W.setCell ⟨p, k, none⟩ u) F p vs vn vu hs hn hu D' := by
  have kb : KeepB W (W.setCell ⟨p, k, none⟩ u) := Upd.setCell (Upd.refl _ _) (.inr (notB_whole h.box (by decide))) u
  have hx := h.box.set k u
  rw [hb] at hx
  refine ⟨hx, ?_, ?_, ?_, ?_, ?_, ?_, by rw [h3]; exact h.hat, h.apart, h.fp, h.fs, h.fn, h.fu⟩
  · rw [h1]; exact own_setCell h.sure (own_ne_whole h.sure h.box (by decide)) u
  · rw [h2]; exact own_setCell h.now (own_ne_whole h.now h.box (by decide)) u
  · rw [h3]; exact own_setCell h.uns (own_ne_whole h.uns h.box (by decide)) u
  · rw [h1]; exact h.hsure.keep kb
  · rw [h2]; exact h.hnow.keep kb
  · rw [h3]; exact h.huns.keep kb
theorem DAt.setNow {g c : Nat} {n : Nat} (h : DAt W F p vs (.slice (some ⟨g, 0, none⟩) n c) vu hs hn hu D) (i : Nat) (hi : i < D.now.length) {v : Value} {b : List Int} (hd : Dt W F v b) :
    DAt (W.setCell ⟨g, i, none⟩ v) F p vs (.slice (some ⟨g, 0, none⟩) n c) vu hs (hn.set i v) hu { D with now := D.now.set i b } := by
  have hg : NotB W g := notB_own h.now rfl (by decide)
  have kb : KeepB W (W.setCell ⟨g, i, none⟩ v) := Upd.setCell (Upd.refl _ _) (.inr hg) v
  have hn0 : n = D.now.length := by
    rcases h.now.2 with ⟨e, _⟩ | ⟨g', cap, cur, e, _⟩
    · cases e
    · injection e
  subst hn0
  refine ⟨h.box.other ?_ v, own_setCell h.sure ?_ v, ?_, own_setCell h.uns ?_ v, h.hsure.keep kb, (h.hnow.keep kb).set i (hd.keep kb), h.huns.keep kb, h.hat, h.apart, h.fp, h.fs, h.fn, h.fu⟩
  · intro e; exact own_ne_whole h.now h.box (by decide) (by rw [e]; rfl)
  · intro e; exact h.apart _ e rfl
  · rw [List.length_set]; exact own_set h.now i (by omega) v
  · intro e; exact own_ne_own h.uns h.now (by decide) _ e rfl
theorem DAt.setSure {g c : Nat} {n : Nat} (h : DAt W F p (.slice (some ⟨g, 0, none⟩) n c) vn vu hs hn hu D) (i : Nat) (hi : i < D.sure.length) {v : Value} {b : List Int} (hd : Dt W F v b) :
    DAt (W.setCell ⟨g, i, none⟩ v) F p (.slice (some ⟨g, 0, none⟩) n c) vn vu (hs.set i v) hn hu { D with sure := D.sure.set i b } := by
  have hg : NotB W g := notB_own h.sure rfl (by decide)
  have kb : KeepB W (W.setCell ⟨g, i, none⟩ v) := Upd.setCell (Upd.refl _ _) (.inr hg) v
  have hn0 : n = D.sure.length := by
    rcases h.sure.2 with ⟨e, _⟩ | ⟨g', cap, cur, e, _⟩
    · cases e
    · injection e
  subst hn0
  refine ⟨h.box.other ?_ v, ?_, own_setCell h.now ?_ v, own_setCell h.uns ?_ v, (h.hsure.keep kb).set i (hd.keep kb), h.hnow.keep kb, h.huns.keep kb, h.hat, h.apart, h.fp, h.fs, h.fn, h.fu⟩
  · intro e; exact own_ne_whole h.sure h.box (by decide) (by rw [e]; rfl)
  · rw [List.length_set]; exact own_set h.sure i (by omega) v
  · exact h.apart _ rfl
  · intro e; exact own_ne_own h.uns h.sure (by decide) _ e rfl
/-- The row of what is sure is a new one. -/
theorem DAt.newSure (h : DAt W F p vs vn vu hs hn hu D) {v : Value} {L : List (List Int)} {xs : List Value} (ho : W.ownsRow 0 27 1 v L.length xs) (hx : Hs W F xs L) (hv : ∀ b, v.ownBlock = some b → F b ∧ vn.ownBlock ≠ some b) :
    DAt (W.setCell ⟨p, 0, none⟩ v) F p v vn vu xs hn hu { D with sure := L } := by
  have kb : KeepB W (W.setCell ⟨p, 0, none⟩ v) := Upd.setCell (Upd.refl _ _) (.inr (notB_whole h.box (by decide))) v
  exact ⟨h.box.set 0 v, own_setCell ho (own_ne_whole ho h.box (by decide)) v, own_setCell h.now (own_ne_whole h.now h.box (by decide)) v, own_setCell h.uns (own_ne_whole h.uns h.box (by decide)) v, hx.keep kb, h.hnow.keep kb, h.huns.keep kb, h.hat, fun b e => (hv b e).2, h.fp, fun b e => (hv b e).1, h.fn, h.fu⟩
theorem DAt.newNow (h : DAt W F p vs vn vu hs hn hu D) {v : Value} {L : List (List Int)} {xs : List Value} (ho : W.ownsRow 0 27 1 v L.length xs) (hx : Hs W F xs L) (hv : ∀ b, v.ownBlock = some b → F b ∧ vs.ownBlock ≠ some b) :
    DAt (W.setCell ⟨p, 1, none⟩ v) F p vs v vu hs xs hu { D with now := L } := by
  have kb : KeepB W (W.setCell ⟨p, 1, none⟩ v) := Upd.setCell (Upd.refl _ _) (.inr (notB_whole h.box (by decide))) v
  exact ⟨h.box.set 1 v, own_setCell h.sure (own_ne_whole h.sure h.box (by decide)) v, own_setCell ho (own_ne_whole ho h.box (by decide)) v, own_setCell h.uns (own_ne_whole h.uns h.box (by decide)) v, h.hsure.keep kb, hx.keep kb, h.huns.keep kb, h.hat, fun b e e2 => (hv b e2).2 e, h.fp, h.fs, fun b e => (hv b e).1, h.fu⟩
theorem DAt.noUns (h : DAt W F p vs vn vu hs hn hu D) : DAt (W.setCell ⟨p, 2, none⟩ (.slice none 0 0)) F p vs vn (.slice none 0 0) hs hn [] { D with uns := [] } := by
  have kb : KeepB W (W.setCell ⟨p, 2, none⟩ (.slice none 0 0)) := Upd.setCell (Upd.refl _ _) (.inr (notB_whole h.box (by decide))) _
  exact ⟨h.box.set 2 _, own_setCell h.sure (own_ne_whole h.sure h.box (by decide)) _, own_setCell h.now (own_ne_whole h.now h.box (by decide)) _, World.ownsRow_nil _ _ _ _, h.hsure.keep kb, h.hnow.keep kb, Hs.nil, rfl, h.apart, h.fp, h.fs, h.fn, fun b e => by cases e⟩
/-- One more that is not sure. -/
theorem DAt.addUns (h : DAt W F p vs vn vu hs hn hu D) {v hd : Value} {i : Nat} {b : List Int} (hg : W.grownBy W' vu.ownBlock) (ho : W'.ownsRow 0 79 2 v (D.uns.length + 1) (hu.flatMap wc ++ wc (i, hd))) (hv : ∀ b, v.ownBlock = some b → F b) (hdt : Dt W F hd b) :
    DAt (W'.setCell ⟨p, 2, none⟩ v) F p vs vn v hs hn (hu ++ [(i, hd)]) { D with uns := D.uns ++ [(i, b)] } := by
  have k1 : KeepB W W' := KeepB.of_upd (S := fun k => vu.ownBlock = some k) (Upd.of_grown hg fun k e => e) (fun k e => notB_own h.uns e (by decide))
  have hb : Whole W' p 75 _ := h.box.grown hg (own_ne_whole h.uns h.box (by decide))
  have k2 : KeepB W' (W'.setCell ⟨p, 2, none⟩ v) := Upd.setCell (Upd.refl _ _) (.inr (notB_whole hb (by decide))) _
  have kb := k1.trans k2
  have hs' := own_grown h.sure hg (fun b e e2 => own_ne_own h.sure h.uns (by decide) b e e2)
  have hn' := own_grown h.now hg (fun b e e2 => own_ne_own h.now h.uns (by decide) b e e2)
  refine ⟨hb.set 2 v, own_setCell hs' (own_ne_whole hs' hb (by decide)) v, own_setCell hn' (own_ne_whole hn' hb (by decide)) v, ?_, h.hsure.keep kb, h.hnow.keep kb, ?_, ?_, h.apart, h.fp, h.fs, h.fn, hv⟩
  · rw [List.length_append, List.length_singleton, List.flatMap_append]
    simpa using own_setCell ho (own_ne_whole ho hb (by decide)) v
  · rw [List.map_append, List.map_append]
    exact (h.huns.keep kb).snoc (hdt.keep kb)
  · rw [List.map_append, List.map_append, h.hat]
    rfl
theorem DAt.addSure (h : DAt W F p vs vn vu hs hn hu D) {v hd : Value} {b : List Int} (hg : W.grownBy W' vs.ownBlock) (ho : W'.ownsRow 0 27 1 v (D.sure.length + 1) (hs ++ [hd])) (hv : ∀ b, v.ownBlock = some b → F b ∧ vn.ownBlock ≠ some b) (hdt : Dt W F hd b) :
    DAt (W'.setCell ⟨p, 0, none⟩ v) F p v vn vu (hs ++ [hd]) hn hu { D with sure := D.sure ++ [b] } := by
  have k1 : KeepB W W' := KeepB.of_upd (S := fun k => vs.ownBlock = some k) (Upd.of_grown hg fun k e => e) (fun k e => notB_own h.sure e (by decide))
  have hb : Whole W' p 75 _ := h.box.grown hg (own_ne_whole h.sure h.box (by decide))
  have k2 : KeepB W' (W'.setCell ⟨p, 0, none⟩ v) := Upd.setCell (Upd.refl _ _) (.inr (notB_whole hb (by decide))) _
  have kb := k1.trans k2
  have hn' := own_grown h.now hg (fun b e e2 => h.apart b e2 e)
  have hu' := own_grown h.uns hg (fun b e e2 => own_ne_own h.uns h.sure (by decide) b e e2)
  refine ⟨hb.set 0 v, ?_, own_setCell hn' (own_ne_whole hn' hb (by decide)) v, own_setCell hu' (own_ne_whole hu' hb (by decide)) v, (h.hsure.keep kb).snoc (hdt.keep kb), h.hnow.keep kb, h.huns.keep kb, h.hat, fun b e => (hv b e).2, h.fp, fun b e => (hv b e).1, h.fn, h.fu⟩
  rw [List.length_append, List.length_singleton]
  exact own_setCell ho (own_ne_whole ho hb (by decide)) v
end

def DiskAt (W : World) (F : Nat → Prop) (p : Nat) (D : Dk) : Prop := ∃ vs vn vu hs hn hu, DAt W F p vs vn vu hs hn hu D
theorem DiskAt.upd {W W' : World} {F S : Nat → Prop} {p : Nat} {D : Dk} (h : DiskAt W F p D) (k : Upd S W W') (hS : ∀ b, F b → ¬ S b) : DiskAt W' F p D := by
  obtain ⟨vs, vn, vu, hs, hn, hu, h⟩ := h
  exact ⟨vs, vn, vu, hs, hn, hu, h.upd k hS⟩
theorem DiskAt.below {W W' : World} {F : Nat → Prop} {p : Nat} {D : Dk} (h : DiskAt W F p D) (k : Below W.heap.size W W') : DiskAt W' F p D := h.upd (S := fun _ => False) (Upd.of_below k) (fun _ _ t => t)
theorem DiskAt.mono {W : World} {F F' : Nat → Prop} {p : Nat} {D : Dk} (h : DiskAt W F p D) (k : ∀ b, b < W.heap.size → F b → F' b) : DiskAt W F' p D := by
  obtain ⟨vs, vn, vu, hs, hn, hu, h⟩ := h
  exact ⟨vs, vn, vu, hs, hn, hu, h.mono k⟩
/-- A disk's blocks behind a call: those it had, and those that the call made. -/
def fr (F : Nat → Prop) (w w' : World) : Nat → Prop := fun b => (F b ∨ w.heap.size ≤ b) ∧ b < w'.heap.size
/-- The same, while the call goes on. -/
def op (F : Nat → Prop) (w : World) : Nat → Prop := fun b => F b ∨ w.heap.size ≤ b
theorem DAt.open {W : World} {F : Nat → Prop} {p : Nat} {vs vn vu : Value} {hs hn : List Value} {hu : List (Nat × Value)} {D : Dk} (h : DAt W F p vs vn vu hs hn hu D) : DAt W (op F W) p vs vn vu hs hn hu D := h.mono fun b _ hb => .inl hb
theorem DAt.close {w W : World} {F : Nat → Prop} {p : Nat} {vs vn vu : Value} {hs hn : List Value} {hu : List (Nat × Value)} {D : Dk} (h : DAt W (op F w) p vs vn vu hs hn hu D) : DiskAt W (fr F w W) p D := ⟨_, _, _, _, _, _, h.mono fun b hb hF => ⟨hF, hb⟩⟩
end Go.Proofs.Ytbfcaapompkjhaa
