import Derived.Test.YtppcofcgdbflpaaUA
namespace Go.Proofs.Ytppcofcgdbflpaa
open Go.RowKit Go.Proofs.PosteMem

set_option maxHeartbeats 2000000 in
theorem add36 (w : World) (B p : Nat) (lv pv : Value) (L : List Eff) (pts : List Nat) (h : IsWork 36 w B p lv pv L pts) (x : Value) (M : List Eff) (hx : View w 13 x M.length (M.flatMap Eff.cells)) (hn : L.length + M.length ≤ 1000) :
    Calls Try.prog 24 #[.pointer (some ⟨p, 0, none⟩), x] w fun e w' => e = .returned (.tuple #[]) ∧ ∃ lv', IsWork 36 w' B p lv' pv (L ++ M) pts ∧ (∀ b, Foot p lv' pv b → Foot p lv pv b ∨ w.heap.size ≤ b) ∧ Upd (Foot p lv pv) w w' := by
  have H := h
  obtain ⟨ho, hlow, hls, hps⟩ := h
  obtain ⟨i0, hi0, hz0, hz1, hz2⟩ := info_parts info40
  have c0 : w.cell? ⟨p, 0, none⟩ = some lv := ho.cell 0
  have hlt := ho.lt
  have f0 : w.frozen? ⟨p, 0, none⟩ = false := ho.frozen 0
  obtain ⟨Al, cl, rfl, hl1, hl2, hl3⟩ := own_shape hls
  obtain ⟨Ax, cx, rfl, hx1, hx2⟩ := hx.cells
  go_enter Try.func24, Try.ntmps24
  go_wp2_with (at_builtin; refine wpList_append_view _ rfl (.tmp 10) (.tmp 11) _ rfl B 40 i0 zEff 13 144 Try.underlying34 hi0 hz0 hz1 hz2 rfl (by omega) (.slice Al L.length cl) L.length (L.flatMap Eff.cells) rfl hls _ M.length (M.flatMap Eff.cells) rfl hx (Eff.one M) (by omega) (by simp only [maxLen]; omega) (by omega) ?_; intro v1 w1 hown hg hat; obtain ⟨A1, k1, hv1, hk1, hk2, hk3⟩ := own_shape hown; rw [hv1] at hown hat ⊢; have ho1 := ho.grown hg (own_ne_whole hls ho (by decide)); have c1' := ho1.cell 0; have f1' := ho1.frozen 0)
  go_end0
  refine ⟨rfl, _, work_ls (by decide) (by decide) H (Below.refl _ _) rfl hg (L' := L ++ M) ?_ hat⟩
  rw [List.length_append, List.flatMap_append]
  exact hown

set_option maxHeartbeats 4000000 in
theorem add48 (w : World) (B p : Nat) (lv pv : Value) (L : List Eff) (pts : List Nat) (h : IsWork 48 w B p lv pv L pts) (x : Eff) (hn : L.length ≤ 1000) :
    Calls Try.prog 28 #[.pointer (some ⟨p, 0, none⟩), .agg x.cells.toArray] w fun e w' => e = .returned (.tuple #[]) ∧ ∃ lv', IsWork 48 w' B p lv' pv (L ++ [x]) pts ∧ (∀ b, Foot p lv' pv b → Foot p lv pv b ∨ w.heap.size ≤ b) ∧ Upd (Foot p lv pv) w w' := by
  have H := h
  obtain ⟨ho, hlow, hls, hps⟩ := h
  obtain ⟨i0, hi0, hz0, hz1, hz2⟩ := info_parts info40
  have c0 : w.cell? ⟨p, 0, none⟩ = some lv := ho.cell 0
  have hlt := ho.lt
  have f0 : w.frozen? ⟨p, 0, none⟩ = false := ho.frozen 0
  obtain ⟨Al, cl, rfl, hl1, hl2, hl3⟩ := own_shape hls
  unfold Eff.cells
  go_enter Try.func28, Try.ntmps28
  go_wp2_with fail
  go_region_law (first | (refine step_append_view _ rfl (.tmp 8) (.tmp 10) _ rfl B 40 i0 zEff 13 144 Try.underlying34 hi0 hz0 hz1 hz2 rfl (by omega) (.slice Al L.length cl) L.length (L.flatMap Eff.cells) rfl ?c1 _ 1 x.cells rfl ?c2 ?c3 ?c4 ?c5 ?c6 ?_; (case c1 => exact (hls.alloc _).alloc _); (case c2 => exact View.boxAt (w.alloc _) x.cells 40 _ rfl (by simp)); (case c3 => exact (fun u hu => Eff.one [x] u (by simpa using hu))); (case c4 => omega); (case c5 => simp only [maxLen]; omega); (case c6 => simp; omega); intro v1 w1 hown hg hat; obtain ⟨A1, k1, hv1, hk1, hk2, hk3⟩ := own_shape hown; rw [hv1] at hown hat ⊢; have ho1 := ((ho.alloc _).alloc _).drew.grown hg (own_ne_whole hls ho (by decide)); have c1' := ho1.cell 0; have f1' := ho1.frozen 0))
  all_goals
    go_end0
    refine ⟨rfl, _, work_ls (by decide) (by decide) H (w0 := ((w.alloc _).alloc _).drew) (((Below.refl _ _).alloc (Nat.le_refl _) _).alloc (by simp) _).drew rfl hg (L' := L ++ [x]) ?_ hat⟩
    rw [List.length_append, List.length_singleton, List.flatMap_append, List.flatMap_singleton]
    exact hown

set_option maxHeartbeats 1000000 in
theorem all36 (w : World) (B p : Nat) (lv pv : Value) (L : List Eff) (pts : List Nat) (h : IsWork 36 w B p lv pv L pts) (hn : L.length ≤ 1000) :
    Calls Try.prog 26 #[.pointer (some ⟨p, 0, none⟩)] w fun e w' => ∃ v', e = .returned v' ∧ w'.ownsRow w.heap.size 40 13 v' L.length (L.flatMap Eff.cells) ∧ Below w.heap.size w w' := by
  have c0 : w.cell? ⟨p, 0, none⟩ = some lv := h.obj.cell 0
  go_enter Try.func26, Try.ntmps26
  go_wp2_with fail
  refine (cloneEff lv L.length _ w (View.of_own h.ls) (Eff.one L) (by omega)).mono ?_
  rintro e w' ⟨v', rfl, hown, hb⟩
  go_wp2_with fail
  go_ret
  exact ⟨v', rfl, hown, hb⟩

set_option maxHeartbeats 1000000 in
theorem clear36 (w : World) (B p : Nat) (lv pv : Value) (L : List Eff) (pts : List Nat) (h : IsWork 36 w B p lv pv L pts) :
    Calls Try.prog 32 #[.pointer (some ⟨p, 0, none⟩)] w fun e w' => e = .returned (.tuple #[]) ∧ IsWork 36 w' B p (.slice none 0 0) (.slice none 0 0) [] [] ∧ Upd (Foot p lv pv) w w' := by
  have c0 : w.cell? ⟨p, 0, none⟩ = some lv := h.obj.cell 0
  have c1 : w.cell? ⟨p, 1, none⟩ = some pv := h.obj.cell 1
  have f0 : w.frozen? ⟨p, 0, none⟩ = false := h.obj.frozen 0
  have f1 : w.frozen? ⟨p, 1, none⟩ = false := h.obj.frozen 1
  go_enter Try.func32, Try.ntmps32
  go_wp2_with fail
  go_end0
  refine ⟨rfl, ⟨(h.obj.set 0 _).set 1 _, h.low, World.ownsRow_nil _ _ _ _, World.ownsRow_nil _ _ _ _⟩, ?_⟩
  exact ((Upd.refl _ _).setCell (.inr (.inl rfl)) _).setCell (.inr (.inl rfl)) _

theorem eff_drop (L : List Eff) (k : Nat) : (L.flatMap Eff.cells).drop (k * 13) = (L.drop k).flatMap Eff.cells := flatMap_drop _ 13 Eff.len k L
theorem eff_take (L : List Eff) (k : Nat) : (L.flatMap Eff.cells).take (k * 13) = (L.take k).flatMap Eff.cells := flatMap_take _ 13 Eff.len k L

set_option maxHeartbeats 4000000 in
theorem since36 (w : World) (B p : Nat) (lv pv : Value) (L : List Eff) (pts : List Nat) (n : Nat) (h : IsWork 36 w B p lv pv L pts) (hn : n < pts.length) (hL : pts[n] ≤ L.length) (hm : L.length ≤ 1000) (hpl : pts.length ≤ 1000) :
    Calls Try.prog 49 #[.pointer (some ⟨p, 0, none⟩), .int .i64 n] w fun e w' => ∃ v', e = .returned (.tuple #[v', .bool true]) ∧ w'.ownsRow w.heap.size 40 13 v' (L.drop pts[n]).length ((L.drop pts[n]).flatMap Eff.cells) ∧ Below w.heap.size w w' := by
  obtain ⟨ho, hlow, hls, hps⟩ := h
  have c0 : w.cell? ⟨p, 0, none⟩ = some lv := ho.cell 0
  have c1 : w.cell? ⟨p, 1, none⟩ = some pv := ho.cell 1
  have vps := View.of_own hps
  have vls := View.of_own hls
  obtain ⟨b, off, cap, hpv, hc1, hc2, hc3, hcc⟩ := vps.at_ (by omega)
  subst hpv
  have cn := hcc n (.int .i64 (pts[n] : Int)) (by unfold Pt; rw [List.getElem?_map, List.getElem?_eq_getElem hn]; rfl)
  have q1 : (n : Int) < (pts.length : Int) := by omega
  obtain ⟨Al, cl, rfl, hl1, hl2, hl3⟩ := own_shape hls
  generalize pts[n] = k at *
  have q2 : (k : Int) ≤ (L.length : Int) := by omega
  have q3 : (k : Int) ≤ (cl : Int) := by omega
  have vd := vls.drop hL
  rw [eff_drop] at vd
  rw [List.length_drop]
  have one := Eff.one (L.drop k)
  have hbd : (L.length - k) * 144 ≤ 140737488355328 := by omega
  replace vd := Lib.hid vd
  replace one := Lib.hid one
  replace vls := Lib.hid vls
  replace hcc := Lib.hid hcc
  replace vps := Lib.hid vps
  go_enter Try.func49, Try.ntmps49
  go_wp2_with fail
  go_region_law (first | (go_simp; go_at_call 50; refine (cloneEff _ _ _ _ (View.drew vd.out) one.out hbd).mono ?_; rintro e w' ⟨v', rfl, hown, hb⟩))
  all_goals go_wp2
  all_goals
    go_ret2
    exact ⟨v', rfl, hown, (Below.refl w.heap.size w).drew.trans hb⟩
end Go.Proofs.Ytppcofcgdbflpaa
