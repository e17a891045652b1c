import Derived.Test.YtppcofcgdbflpaaUD
namespace Go.Proofs.Ytppcofcgdbflpaa
open Go.RowKit Go.Proofs.PosteMem

theorem effs_at {w : World} {v : Value} {L : List Eff} (h : View w 13 v L.length (L.flatMap Eff.cells)) (hn : 0 < L.length) : ∃ b off cap, v = .slice (some ⟨b, off, none⟩) L.length cap ∧ L.length ≤ cap ∧ cap ≤ maxLen ∧ ∀ (k : Nat) (hk : k < L.length) (j : Nat) (u : Value), (L[k].cells)[j]? = some u → w.cell? ⟨b, off + (k * 13 + j), none⟩ = some u := by
  obtain ⟨b, off, cap, e, h1, h2, _, h3⟩ := h.at_ (by omega)
  refine ⟨b, off, cap, e, h1, h2, fun k hk j u hu => h3 _ u ?_⟩
  have hj : j < 13 := by
    have := (List.getElem?_eq_some_iff.1 hu).1
    rwa [Eff.len] at this
  rw [flatMap_at Eff.cells 13 Eff.len L k hk j hj]
  exact hu

set_option maxHeartbeats 4000000 in
theorem same_effects (w : World) (v1 v2 : Value) (L : List Eff) (h1 : View w 13 v1 L.length (L.flatMap Eff.cells)) (h2 : View w 13 v2 L.length (L.flatMap Eff.cells)) (hm : L.length ≤ 1000) :
    Calls Try.prog 31 #[v1, v2] w fun e w' => e = .returned (.bool true) ∧ Same w w' := by
  by_cases h0 : L.length = 0
  · obtain ⟨A1, c1, rfl, _, _⟩ := h1.cells
    obtain ⟨A2, c2, rfl, _, _⟩ := h2.cells
    rw [h0]
    go_enter Try.func31, Try.ntmps31
    go_wp2_with fail
    go_rounds 1
    go_ret
    exact ⟨rfl, Same.refl _⟩
  · obtain ⟨b1, o1, c1, rfl, l1, m1, f1⟩ := effs_at h1 (by omega)
    obtain ⟨b2, o2, c2, rfl, l2, m2, f2⟩ := effs_at h2 (by omega)
    clear h1 h2
    replace f1 := Lib.hid f1
    replace f2 := Lib.hid f2
    go_enter Try.func31, Try.ntmps31
    go_wp2_with fail
    go_loopw [5] (fun i wr => ∃ k : Nat, k ≤ L.length ∧ i = .int .i64 k ∧ Same w wr) (fun i _ => L.length - (intOf i).toNat)
    case atStart => exact ⟨0, by omega, rfl, 0, rfl⟩
    case round =>
      obtain ⟨k, hk, rfl, m, rfl⟩ := hrel
      by_cases hlt : k < L.length
      · have q1 : (k : Int) < (L.length : Int) := by omega
        have g1 := f1.out k hlt
        have g2 := f2.out k hlt
        generalize L[k] = x at g1 g2
        simp only [Eff.cells] at g1 g2
        have p0 : w.cell? ⟨b1, o1 + k * 13, none⟩ = some (.int .i64 x.kind) := by have := g1 0 _ rfl; simpa [Nat.add_assoc] using this
        have p1 : w.cell? ⟨b1, o1 + k * 13 + 1, none⟩ = some (.string x.obj) := by have := g1 1 _ rfl; simpa [Nat.add_assoc] using this
        have p2 : w.cell? ⟨b1, o1 + k * 13 + 2, none⟩ = some (.string x.key) := by have := g1 2 _ rfl; simpa [Nat.add_assoc] using this
        have p3 : w.cell? ⟨b1, o1 + k * 13 + 3, none⟩ = some (.string x.val) := by have := g1 3 _ rfl; simpa [Nat.add_assoc] using this
        have p4 : w.cell? ⟨b1, o1 + k * 13 + 4, none⟩ = some (.int .i64 x.n) := by have := g1 4 _ rfl; simpa [Nat.add_assoc] using this
        have p5 : w.cell? ⟨b1, o1 + k * 13 + 5, none⟩ = some (.int .i64 x.lim) := by have := g1 5 _ rfl; simpa [Nat.add_assoc] using this
        have p6 : w.cell? ⟨b1, o1 + k * 13 + 6, none⟩ = some (.bool x.tried) := by have := g1 6 _ rfl; simpa [Nat.add_assoc] using this
        have p7 : w.cell? ⟨b1, o1 + k * 13 + 7, none⟩ = some (.int .i64 x.mid) := by have := g1 7 _ rfl; simpa [Nat.add_assoc] using this
        have p8 : w.cell? ⟨b1, o1 + k * 13 + 8, none⟩ = some (.int .i64 x.mpri) := by have := g1 8 _ rfl; simpa [Nat.add_assoc] using this
        have p9 : w.cell? ⟨b1, o1 + k * 13 + 9, none⟩ = some (.int .i64 x.mretry) := by have := g1 9 _ rfl; simpa [Nat.add_assoc] using this
        have p10 : w.cell? ⟨b1, o1 + k * 13 + 10, none⟩ = some (.bool x.mclaimed) := by have := g1 10 _ rfl; simpa [Nat.add_assoc] using this
        have p11 : w.cell? ⟨b1, o1 + k * 13 + 11, none⟩ = some (.string x.mcorr) := by have := g1 11 _ rfl; simpa [Nat.add_assoc] using this
        have p12 : w.cell? ⟨b1, o1 + k * 13 + 12, none⟩ = some (.string x.mbody) := by have := g1 12 _ rfl; simpa [Nat.add_assoc] using this
        have q0 : w.cell? ⟨b2, o2 + k * 13, none⟩ = some (.int .i64 x.kind) := by have := g2 0 _ rfl; simpa [Nat.add_assoc] using this
        have q1 : w.cell? ⟨b2, o2 + k * 13 + 1, none⟩ = some (.string x.obj) := by have := g2 1 _ rfl; simpa [Nat.add_assoc] using this
        have q2 : w.cell? ⟨b2, o2 + k * 13 + 2, none⟩ = some (.string x.key) := by have := g2 2 _ rfl; simpa [Nat.add_assoc] using this
        have q3 : w.cell? ⟨b2, o2 + k * 13 + 3, none⟩ = some (.string x.val) := by have := g2 3 _ rfl; simpa [Nat.add_assoc] using this
        have q4 : w.cell? ⟨b2, o2 + k * 13 + 4, none⟩ = some (.int .i64 x.n) := by have := g2 4 _ rfl; simpa [Nat.add_assoc] using this
        have q5 : w.cell? ⟨b2, o2 + k * 13 + 5, none⟩ = some (.int .i64 x.lim) := by have := g2 5 _ rfl; simpa [Nat.add_assoc] using this
        have q6 : w.cell? ⟨b2, o2 + k * 13 + 6, none⟩ = some (.bool x.tried) := by have := g2 6 _ rfl; simpa [Nat.add_assoc] using this
        have q7 : w.cell? ⟨b2, o2 + k * 13 + 7, none⟩ = some (.int .i64 x.mid) := by have := g2 7 _ rfl; simpa [Nat.add_assoc] using this
        have q8 : w.cell? ⟨b2, o2 + k * 13 + 8, none⟩ = some (.int .i64 x.mpri) := by have := g2 8 _ rfl; simpa [Nat.add_assoc] using this
        have q9 : w.cell? ⟨b2, o2 + k * 13 + 9, none⟩ = some (.int .i64 x.mretry) := by have := g2 9 _ rfl; simpa [Nat.add_assoc] using this
        have q10 : w.cell? ⟨b2, o2 + k * 13 + 10, none⟩ = some (.bool x.mclaimed) := by have := g2 10 _ rfl; simpa [Nat.add_assoc] using this
        have q11 : w.cell? ⟨b2, o2 + k * 13 + 11, none⟩ = some (.string x.mcorr) := by have := g2 11 _ rfl; simpa [Nat.add_assoc] using this
        have q12 : w.cell? ⟨b2, o2 + k * 13 + 12, none⟩ = some (.string x.mbody) := by have := g2 12 _ rfl; simpa [Nat.add_assoc] using this
        clear g1 g2
        go_wp2_with fail
        go_quiet (fail)
        go_wp2_with fail
        go_roundw
        case rel => exact ⟨k + 1, by omega, by go_num, _, rfl⟩
        case measure => simp [intOf]; omega
      · go_wp2_with fail
        go_ret
        exact ⟨rfl, m, rfl⟩

def cutI (n low high : Int) : Int := if n < low then low else if high < n then high else n
set_option maxHeartbeats 1000000 in
theorem cut_any (n low high : Int) (w : World) : Calls Try.prog 27 #[.int .i64 n, .int .i64 low, .int .i64 high] w fun e w' => e = .returned (.int .i64 (cutI n low high)) ∧ w = w' := by
  by_cases h1 : n < low
  · have e : cutI n low high = low := by simp [cutI, h1]
    rw [e]
    go_enter Try.func27, Try.ntmps27
    go_wp2
    go_ret
    exact ⟨rfl, rfl⟩
  · by_cases h2 : high < n
    · have e : cutI n low high = high := by simp [cutI, h1, h2]
      rw [e]
      go_enter Try.func27, Try.ntmps27
      go_wp2
      go_ret
      exact ⟨rfl, rfl⟩
    · have e : cutI n low high = n := by simp [cutI, h1, h2]
      rw [e]
      go_enter Try.func27, Try.ntmps27
      go_wp2
      go_ret
      exact ⟨rfl, rfl⟩

theorem work_new (T : TypeId) (w : World) (B : Nat) (hB : B ≤ w.heap.size) : IsWork T (w.alloc (.cells #[.slice none 0 0, .slice none 0 0] T)) B w.heap.size (.slice none 0 0) (.slice none 0 0) [] [] :=
  ⟨Whole.new _ _ _, hB, World.ownsRow_nil _ _ _ _, World.ownsRow_nil _ _ _ _⟩

theorem work_below {T : TypeId} {W W' : World} {B p : Nat} {lv pv : Value} {L : List Eff} {pts : List Nat} (h : IsWork T W B p lv pv L pts) (up : Upd (Foot p lv pv) W W') : Below B W W' :=
  up.below (Nat.le_trans h.low (Nat.le_of_lt h.obj.lt)) (fun _ hb => (h.foot_lt hb).1)

/-- The change that the laws add: its kind 8, its number. -/
def fnext (n : Int) : Eff := ⟨8, ⟨#[]⟩, ⟨#[]⟩, ⟨#[]⟩, n, 0, false, 0, 0, 0, false, ⟨#[]⟩, ⟨#[]⟩⟩

set_option maxHeartbeats 8000000 in
theorem alive22 (w : World) : Calls Try.prog 22 #[] w fun e w' => e = .returned (.bool true) ∧ Below w.heap.size w w' := by
  go_enter Try.func22, Try.ntmps22
  go_wp2_with fail
  have h1 := work_new 36 w w.heap.size (Nat.le_refl _)
  refine (mark36 _ _ _ _ _ _ _ h1 (by decide)).mono ?_; rintro e w1 ⟨rfl, pv1, k1, ft1, up1⟩
  go_wp2_with fail
  refine (add36 _ _ _ _ _ _ _ (k1.below ((Below.refl _ _).alloc (Nat.le_refl _) _)) _ [fnext 3] (View.boxAt _ (fnext 3).cells 40 _ rfl rfl) (by decide)).mono ?_; rintro e w2 ⟨rfl, lv2, k2, ft2, up2⟩
  go_wp2_with fail
  refine (back36 _ _ _ _ _ _ _ 0 0 k2 rfl (by decide) (by decide) (by decide)).mono ?_; rintro e w3 ⟨v3, lv3, pv3, rfl, own3, k3, ft3, up3⟩
  obtain ⟨A3, c3, rfl, _, _⟩ := own_shape own3
  go_wp2_with fail
  refine (all36 _ _ _ _ _ _ _ k3 (by decide)).mono ?_; rintro e w4 ⟨v4, rfl, own4, b4⟩
  obtain ⟨A4, c4, rfl, _, _⟩ := own_shape own4
  go_wp2_with fail
  go_ret
  have hk2 := k1.below ((Below.refl _ _).alloc (Nat.le_refl _) (.cells (fnext 3).cells.toArray 40))
  exact ⟨rfl, (((((Below.refl _ _).alloc (Nat.le_refl _) _).trans (work_below h1 up1)).alloc (Nat.le_trans k1.low (Nat.le_of_lt k1.obj.lt)) _).trans (work_below hk2 up2)).trans ((work_below k2 up3).trans (b4.mono (Nat.le_trans k3.low (Nat.le_of_lt k3.obj.lt))))⟩
end Go.Proofs.Ytppcofcgdbflpaa
