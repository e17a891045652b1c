import Derived.Test.YtppcofcgdbflpaaUB
import Derived.IntWalk
namespace Go.Proofs.Ytppcofcgdbflpaa
open Go.RowKit Go.Proofs.PosteMem

set_option maxHeartbeats 4000000 in
theorem since36_no (w : World) (B p : Nat) (lv pv : Value) (L : List Eff) (pts : List Nat) (n : Int) (h : IsWork 36 w B p lv pv L pts) (hn : n < 0 ∨ pts.length ≤ n) :
    Calls Try.prog 49 #[.pointer (some ⟨p, 0, none⟩), .int .i64 n] w fun e w' => e = .returned (.tuple #[.slice none 0 0, .bool false]) ∧ w = w' := by
  obtain ⟨ho, hlow, hls, hps⟩ := h
  have c1 : w.cell? ⟨p, 1, none⟩ = some pv := ho.cell 1
  obtain ⟨Ap, cp, rfl, hp1, hp2, hp3⟩ := own_shape hps
  rcases hn with hn | hn
  · go_enter Try.func49, Try.ntmps49
    go_wp2_with fail
    go_ret2
    exact ⟨rfl, rfl⟩
  · have hn' : ¬ n < 0 := by omega
    go_enter Try.func49, Try.ntmps49
    go_wp2_with fail
    go_ret2
    exact ⟨rfl, rfl⟩

set_option maxHeartbeats 4000000 in
theorem since48_no (w : World) (B p : Nat) (lv pv : Value) (L : List Eff) (pts : List Nat) (n : Int) (h : IsWork 48 w B p lv pv L pts) (hn : n < 0 ∨ pts.length ≤ n) :
    Calls Try.prog 51 #[.pointer (some ⟨p, 0, none⟩), .int .i64 n] w fun e w' => e = .returned (.tuple #[.slice none 0 0, .bool false]) ∧ w = w' := by
  obtain ⟨ho, hlow, hls, hps⟩ := h
  have c1 : w.cell? ⟨p, 1, none⟩ = some pv := ho.cell 1
  obtain ⟨Ap, cp, rfl, hp1, hp2, hp3⟩ := own_shape hps
  rcases hn with hn | hn
  · go_enter Try.func51, Try.ntmps51
    go_wp2_with fail
    go_ret2
    exact ⟨rfl, rfl⟩
  · have hn' : ¬ n < 0 := by omega
    go_enter Try.func51, Try.ntmps51
    go_wp2_with fail
    go_ret2
    exact ⟨rfl, rfl⟩

set_option maxHeartbeats 4000000 in
theorem since48 (w : World) (B p : Nat) (lv pv : Value) (L : List Eff) (pts : List Nat) (n : Nat) (h : IsWork 48 w B p lv pv L pts) (hn : n < pts.length) (hL : pts[n] ≤ L.length) (hm : L.length ≤ 1000) (hpl : pts.length ≤ 1000) :
    Calls Try.prog 51 #[.pointer (some ⟨p, 0, none⟩), .int .i64 n] w fun e w' => ∃ v', e = .returned (.tuple #[v', .bool true]) ∧ w'.ownsRow w.heap.size 40 13 v' (L.drop pts[n]).length ((L.drop pts[n]).flatMap Eff.cells) ∧ Below w.heap.size w w' := by
  obtain ⟨i0, hi0, hz0, hz1, hz2⟩ := info_parts info40
  obtain ⟨ho, hlow, hls, hps⟩ := h
  have c0 : w.cell? ⟨p, 0, none⟩ = some lv := ho.cell 0
  have c1 : w.cell? ⟨p, 1, none⟩ = some pv := ho.cell 1
  have vps := View.of_own hps
  have vls := View.of_own hls
  obtain ⟨b, off, cap, hpv, hc1, hc2, hc3, hcc⟩ := vps.at_ (by omega)
  subst hpv
  have cn := hcc n (.int .i64 (pts[n] : Int)) (by unfold Pt; rw [List.getElem?_map, List.getElem?_eq_getElem hn]; rfl)
  have q1 : (n : Int) < (pts.length : Int) := by omega
  obtain ⟨Al, cl, rfl, hl1, hl2, hl3⟩ := own_shape hls
  generalize pts[n] = k at *
  have q2 : (k : Int) ≤ (L.length : Int) := by omega
  have q3 : (k : Int) ≤ (cl : Int) := by omega
  have vd := vls.drop hL
  rw [eff_drop] at vd
  rw [List.length_drop]
  have one := Eff.one (L.drop k)
  have hbd : (0 + (L.length - k)) * 144 ≤ 140737488355328 := by omega
  have hbm : 0 + (L.length - k) ≤ maxLen := by simp only [maxLen]; omega
  replace vd := Lib.hid vd
  replace one := Lib.hid one
  replace vls := Lib.hid vls
  replace hcc := Lib.hid hcc
  replace vps := Lib.hid vps
  go_enter Try.func51, Try.ntmps51
  go_wp2_with fail
  go_region_law (first | (refine step_append_view _ rfl (.const (.slice none 0 0)) (.tmp 28) _ rfl w.heap.size 40 i0 zEff 13 144 Try.underlying34 hi0 hz0 hz1 hz2 rfl (by omega) (.slice none 0 0) 0 [] rfl (World.ownsRow_nil _ _ _ _) _ (L.length - k) ((L.drop k).flatMap Eff.cells) rfl (View.drew vd.out) one.out hbd hbm (Nat.le_refl _) ?_; intro v1 w1 hown hg hat))
  all_goals go_wp2
  all_goals
    go_ret2
    exact ⟨v1, rfl, by simpa using hown, (Below.refl w.heap.size w).drew.grown hg (Nat.le_refl _) (by simp [Value.ownBlock])⟩

set_option maxHeartbeats 4000000 in
theorem back36_no (w : World) (B p : Nat) (lv pv : Value) (L : List Eff) (pts : List Nat) (n : Int) (h : IsWork 36 w B p lv pv L pts) (hn : n < 0 ∨ pts.length ≤ n) :
    Calls Try.prog 25 #[.pointer (some ⟨p, 0, none⟩), .int .i64 n] w fun e w' => e = .returned (.tuple #[.slice none 0 0, .bool false]) ∧ w = w' := by
  replace h := Lib.hid h
  replace hn := Lib.hid hn
  go_enter Try.func25, Try.ntmps25
  go_wp2_with fail
  refine (since36_no w B p lv pv L pts n h.out hn.out).mono ?_; rintro e w' ⟨rfl, rfl⟩
  go_wp2_with fail
  go_ret2
  exact ⟨rfl, rfl⟩
set_option maxHeartbeats 4000000 in
theorem back48_no (w : World) (B p : Nat) (lv pv : Value) (L : List Eff) (pts : List Nat) (n : Int) (h : IsWork 48 w B p lv pv L pts) (hn : n < 0 ∨ pts.length ≤ n) :
    Calls Try.prog 30 #[.pointer (some ⟨p, 0, none⟩), .int .i64 n] w fun e w' => e = .returned (.tuple #[.slice none 0 0, .bool false]) ∧ w = w' := by
  replace h := Lib.hid h
  replace hn := Lib.hid hn
  go_enter Try.func30, Try.ntmps30
  go_wp2_with fail
  refine (since48_no w B p lv pv L pts n h.out hn.out).mono ?_; rintro e w' ⟨rfl, rfl⟩
  go_wp2_with fail
  go_ret2
  exact ⟨rfl, rfl⟩

theorem work_cut {T : TypeId} {w : World} {B p : Nat} {Al A2 : Option Addr} {cl cap k n : Nat} {L : List Eff} {pts : List Nat} (h : IsWork T w B p (.slice Al L.length cl) (.slice A2 pts.length cap) L pts) (hk : k ≤ L.length) (hn : n < pts.length) (hT : T ≠ 40 := by decide) (hT3 : T ≠ 3 := by decide) :
    IsWork T ((w.setCell ⟨p, 0, none⟩ (.slice Al k cl)).setCell ⟨p, 1, none⟩ (.slice A2 (n + 1) cap)) B p (.slice Al k cl) (.slice A2 (n + 1) cap) (L.take k) (pts.take (n + 1)) ∧
      (∀ b, Foot p (.slice Al k cl) (.slice A2 (n + 1) cap) b → Foot p (.slice Al L.length cl) (.slice A2 pts.length cap) b) ∧
      Upd (Foot p (.slice Al L.length cl) (.slice A2 pts.length cap)) w ((w.setCell ⟨p, 0, none⟩ (.slice Al k cl)).setCell ⟨p, 1, none⟩ (.slice A2 (n + 1) cap)) := by
  obtain ⟨ho, hlow, hls, hps⟩ := h
  refine ⟨⟨(ho.set 0 _).set 1 _, hlow, ?_, ?_⟩, ?_, ?_⟩
  · obtain ⟨A', c', e, h1⟩ := own_take hls hk
    injection e with e1 e2 e3
    subst e1 e3
    rw [eff_take] at h1
    rw [List.length_take, Nat.min_eq_left hk]
    exact own_setCell (own_setCell h1 (own_ne_whole h1 ho (Ne.symm hT)) _) (own_ne_whole h1 ho (Ne.symm hT)) _
  · obtain ⟨A', c', e, h1⟩ := own_take hps (k := n + 1) (by omega)
    injection e with e1 e2 e3
    subst e1 e3
    have e9 : (Pt pts).take ((n + 1) * 1) = Pt (pts.take (n + 1)) := by unfold Pt; rw [Nat.mul_one, List.map_take]
    rw [e9] at h1
    rw [List.length_take, Nat.min_eq_left (by omega)]
    exact own_setCell (own_setCell h1 (own_ne_whole h1 ho (Ne.symm hT3)) _) (own_ne_whole h1 ho (Ne.symm hT3)) _
  · rintro b (rfl | hb | hb)
    · exact .inl rfl
    · refine .inr (.inl ?_)
      cases Al <;> simp_all [Value.ownBlock]
    · refine .inr (.inr ?_)
      cases A2 <;> simp_all [Value.ownBlock]
  · exact ((Upd.refl _ _).setCell (.inr (.inl rfl)) _).setCell (.inr (.inl rfl)) _

theorem since36k (w : World) (B p : Nat) (lv pv : Value) (L : List Eff) (pts : List Nat) (n k : Nat) (h : IsWork 36 w B p lv pv L pts) (hk : pts[n]? = some k) (hL : k ≤ L.length) (hm : L.length ≤ 1000) (hpl : pts.length ≤ 1000) :
    Calls Try.prog 49 #[.pointer (some ⟨p, 0, none⟩), .int .i64 n] w fun e w' => ∃ v', e = .returned (.tuple #[v', .bool true]) ∧ w'.ownsRow w.heap.size 40 13 v' (L.drop k).length ((L.drop k).flatMap Eff.cells) ∧ Below w.heap.size w w' := by
  obtain ⟨hn, rfl⟩ := List.getElem?_eq_some_iff.1 hk
  exact since36 w B p lv pv L pts n h hn hL hm hpl
theorem since48k (w : World) (B p : Nat) (lv pv : Value) (L : List Eff) (pts : List Nat) (n k : Nat) (h : IsWork 48 w B p lv pv L pts) (hk : pts[n]? = some k) (hL : k ≤ L.length) (hm : L.length ≤ 1000) (hpl : pts.length ≤ 1000) :
    Calls Try.prog 51 #[.pointer (some ⟨p, 0, none⟩), .int .i64 n] w fun e w' => ∃ v', e = .returned (.tuple #[v', .bool true]) ∧ w'.ownsRow w.heap.size 40 13 v' (L.drop k).length ((L.drop k).flatMap Eff.cells) ∧ Below w.heap.size w w' := by
  obtain ⟨hn, rfl⟩ := List.getElem?_eq_some_iff.1 hk
  exact since48 w B p lv pv L pts n h hn hL hm hpl

set_option maxHeartbeats 8000000 in
theorem back36 (w : World) (B p : Nat) (lv pv : Value) (L : List Eff) (pts : List Nat) (n k : Nat) (h : IsWork 36 w B p lv pv L pts) (hk : pts[n]? = some k) (hL : k ≤ L.length) (hm : L.length ≤ 1000) (hpl : pts.length ≤ 1000) :
    Calls Try.prog 25 #[.pointer (some ⟨p, 0, none⟩), .int .i64 n] w fun e w' => ∃ v' lv' pv', e = .returned (.tuple #[v', .bool true]) ∧ w'.ownsRow w.heap.size 40 13 v' (L.drop k).length ((L.drop k).flatMap Eff.cells) ∧
      IsWork 36 w' B p lv' pv' (L.take k) (pts.take (n + 1)) ∧ (∀ b, Foot p lv' pv' b → Foot p lv pv b) ∧ Upd (Foot p lv pv) w w' := by
  have H := Lib.hid h
  have hlt := h.obj.lt
  have hn := (List.getElem?_eq_some_iff.1 hk).1
  go_enter Try.func25, Try.ntmps25
  go_wp2_with fail
  refine (since36k w B p lv pv L pts n k h hk hL hm hpl).mono ?_; rintro e w' ⟨v', rfl, hown, hb⟩
  have h' := h.below hb
  clear h
  obtain ⟨ho, hlow, hls, hps⟩ := h'
  have c0 : w'.cell? ⟨p, 0, none⟩ = some lv := ho.cell 0
  have c1 : w'.cell? ⟨p, 1, none⟩ = some pv := ho.cell 1
  have f0 : w'.frozen? ⟨p, 0, none⟩ = false := ho.frozen 0
  have f1 : w'.frozen? ⟨p, 1, none⟩ = false := ho.frozen 1
  obtain ⟨b, off, cap, hpv, hc1, hc2, hc3, hcc⟩ := (View.of_own hps).at_ (by omega)
  subst hpv
  have cn := hcc n (.int .i64 (k : Int)) (by unfold Pt; rw [List.getElem?_map, hk]; rfl)
  have q1 : (n : Int) < (pts.length : Int) := by omega
  obtain ⟨Al, cl, rfl, hl1, hl2, hl3⟩ := own_shape hls
  replace hk := Lib.hid hk
  have q2 : (k : Int) ≤ (L.length : Int) := by omega
  have q3 : (k : Int) ≤ (cl : Int) := by omega
  have q4 : (n : Int) + 1 ≤ (cap : Int) := by omega
  replace hcc := Lib.hid hcc
  obtain ⟨Av, cv, hv', hv1, hv2, hv3⟩ := own_shape hown
  rw [hv'] at hown ⊢
  have e0 : 0 ≤ (n : Int) + 1 := by omega
  have e1 : IntKind.i64.wrap ((n : Int) + 1) = (n : Int) + 1 := IntWalk.i64_in _ (by omega)
  have e2 : ((n : Int) + 1).toNat = n + 1 := by omega
  go_wp2_with fail
  go_region_law (first | fail)
  clear e1 e2
  all_goals go_wp2
  all_goals
    go_ret2
    refine ⟨_, .slice Al k cl, .slice (some ⟨b, off, none⟩) (n + 1) cap, rfl, ?_, ?_⟩
    · rw [List.length_drop] at hown ⊢
      refine own_drew (own_setCell (own_setCell hown ?_ _) ?_ _) <;> (intro hh; have := (hown.lt p hh).1; omega)
    · have hw := work_cut (T := 36) ⟨ho, hlow, hls, hps⟩ hL hn
      exact ⟨hw.1.drewN 1, hw.2.1, ((Upd.of_below hb).trans hw.2.2 (fun _ _ h => h)).drew⟩
end Go.Proofs.Ytppcofcgdbflpaa
