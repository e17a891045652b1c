import Derived.Test.YtppcofcgdbflpaaUC
import Derived.Test.YtppcofcgdbflpaaSl2
namespace Go.Proofs.Ytppcofcgdbflpaa
open Go.RowKit Go.Proofs.PosteMem

/-- A store of changes that lie in a new row. -/
theorem work_newls {T : TypeId} {w w0 w1 : World} {B p : Nat} {lv pv v1 : Value} {L L' : List Eff} {pts : List Nat} (hT : T ≠ 40) (hT3 : T ≠ 3) (h : IsWork T w B p lv pv L pts) (hw0 : Below w.heap.size w w0) (hg : w0.grownBy w1 none) (hown : w1.ownsRow w.heap.size 40 13 v1 L'.length (L'.flatMap Eff.cells)) :
    IsWork T (w1.setCell ⟨p, 0, none⟩ v1) B p v1 pv L' pts ∧ (∀ b, Foot p v1 pv b → Foot p lv pv b ∨ w.heap.size ≤ b) ∧ Upd (Foot p lv pv) w (w1.setCell ⟨p, 0, none⟩ v1) := by
  have hb : Below w.heap.size w w1 := hw0.grown hg hw0.size (fun k hk => by cases hk)
  have h1 := h.below hb
  refine ⟨⟨h1.obj.set 0 v1, h.low, own_setCell (own_mono hown (by have := h.low; have := h.obj.lt; omega)) (own_ne_whole hown h1.obj (Ne.symm hT)) _, own_setCell h1.ps (own_ne_whole h1.ps h1.obj (Ne.symm hT3)) _⟩, ?_, ?_⟩
  · rintro b (rfl | hb' | hb')
    · exact .inl (.inl rfl)
    · exact .inr (hown.lt b hb').1
    · exact .inl (.inr (.inr hb'))
  · exact (Upd.of_below hb).setCell (.inr (.inl rfl)) _
theorem work_newps {T : TypeId} {w w0 w1 : World} {B p : Nat} {lv pv v1 : Value} {L : List Eff} {pts pts' : List Nat} (hT : T ≠ 40) (hT3 : T ≠ 3) (h : IsWork T w B p lv pv L pts) (hw0 : Below w.heap.size w w0) (hg : w0.grownBy w1 none) (hown : w1.ownsRow w.heap.size 3 1 v1 pts'.length (Pt pts')) :
    IsWork T (w1.setCell ⟨p, 1, none⟩ v1) B p lv v1 L pts' ∧ (∀ b, Foot p lv v1 b → Foot p lv pv b ∨ w.heap.size ≤ b) ∧ Upd (Foot p lv pv) w (w1.setCell ⟨p, 1, none⟩ v1) := by
  have hb : Below w.heap.size w w1 := hw0.grown hg hw0.size (fun k hk => by cases hk)
  have h1 := h.below hb
  refine ⟨⟨h1.obj.set 1 v1, h.low, own_setCell h1.ls (own_ne_whole h1.ls h1.obj (Ne.symm hT)) _, own_setCell (own_mono hown (by have := h.low; have := h.obj.lt; omega)) (own_ne_whole hown h1.obj (Ne.symm hT3)) _⟩, ?_, ?_⟩
  · rintro b (rfl | hb' | hb')
    · exact .inl (.inl rfl)
    · exact .inl (.inr (.inl hb'))
    · exact .inr (hown.lt b hb').1
  · exact (Upd.of_below hb).setCell (.inr (.inl rfl)) _

set_option maxHeartbeats 16000000 in
theorem back48 (w : World) (B p : Nat) (lv pv : Value) (L : List Eff) (pts : List Nat) (n k : Nat) (h : IsWork 48 w B p lv pv L pts) (hk : pts[n]? = some k) (hL : k ≤ L.length) (hm : L.length ≤ 1000) (hpl : pts.length ≤ 1000) :
    Calls Try.prog 30 #[.pointer (some ⟨p, 0, none⟩), .int .i64 n] w fun e w' => ∃ v' lv' pv', e = .returned (.tuple #[v', .bool true]) ∧ w'.ownsRow w.heap.size 40 13 v' (L.drop k).length ((L.drop k).flatMap Eff.cells) ∧
      IsWork 48 w' B p lv' pv' (L.take k) (pts.take (n + 1)) ∧ (∀ b, Foot p lv' pv' b → Foot p lv pv b ∨ w.heap.size ≤ b) ∧ Upd (Foot p lv pv) w w' := by
  obtain ⟨i0, hi0, hz0, hz1, hz2⟩ := info_parts info40
  obtain ⟨j0, hj0, hy0, hy1, hy2⟩ := info_parts info3
  have hlt := h.obj.lt
  have hlow := h.low
  have hn := (List.getElem?_eq_some_iff.1 hk).1
  go_enter Try.func30, Try.ntmps30
  go_wp2_with fail
  refine (since48k w B p lv pv L pts n k h hk hL hm hpl).mono ?_; rintro e w' ⟨v', rfl, hown, hb⟩
  have h' := h.below hb
  replace h := Lib.hid h
  have c0 : w'.cell? ⟨p, 0, none⟩ = some lv := h'.obj.cell 0
  have c1 : w'.cell? ⟨p, 1, none⟩ = some pv := h'.obj.cell 1
  have f0 : w'.frozen? ⟨p, 0, none⟩ = false := h'.obj.frozen 0
  have f1 : w'.frozen? ⟨p, 1, none⟩ = false := h'.obj.frozen 1
  have vps := View.of_own h'.ps
  have vls := View.of_own h'.ls
  obtain ⟨b, off, cap, hpv, hc1, hc2, hc3, hcc⟩ := vps.at_ (by omega)
  subst hpv
  have cn := hcc n (.int .i64 (k : Int)) (by unfold Pt; rw [List.getElem?_map, hk]; rfl)
  have q1 : (n : Int) < (pts.length : Int) := by omega
  obtain ⟨Al, cl, rfl, hl1, hl2, hl3⟩ := own_shape h'.ls
  replace hk := Lib.hid hk
  have q2 : (k : Int) ≤ (L.length : Int) := by omega
  have q3 : (k : Int) ≤ (cl : Int) := by omega
  have vt := vls.take hL
  rw [eff_take] at vt
  have one := Eff.one (L.take k)
  replace hcc := Lib.hid hcc
  replace vls := Lib.hid vls
  replace vt := Lib.hid vt
  replace vps := Lib.hid vps
  replace one := Lib.hid one
  obtain ⟨Av, cv, hv', hv1, hv2, hv3⟩ := own_shape hown
  rw [hv'] at hown ⊢
  have hbd : k * 144 ≤ 140737488355328 := by omega
  have hbm : k ≤ maxLen := by simp only [maxLen]; omega
  go_wp2_with fail
  go_region_law (first | (refine step_append_new _ rfl (.const (.slice none 0 0)) (.tmp 27) _ rfl w.heap.size 40 i0 zEff 13 144 Try.underlying34 hi0 hz0 hz1 hz2 rfl (by omega) rfl _ k ((L.take k).flatMap Eff.cells) rfl (View.drew vt.out) one.out hbd hbm hb.size ?_; intro A1 k1 w1 hown1 hk1 hk2 hk3 hg1 hat1; have ho1 := h'.obj.drew.grown hg1 (by simp); have c0' := ho1.cell 0; have f0' := ho1.frozen 0))
  all_goals
    have hw2 := work_newls (T := 48) (by decide) (by decide) h.out (w0 := w'.drew) hb.drew hg1 (L' := L.take k) (by rw [List.length_take, Nat.min_eq_left hL]; exact hown1)
    have hown2 := own_setCell (own_grown (own_drew hown) hg1 (by simp)) (p := ⟨p, 0, none⟩) (by intro hh; have := (hown.lt p hh).1; omega) (.slice A1 k k1)
    obtain ⟨W2, hW2⟩ : ∃ W2, W2 = w1.setCell ⟨p, 0, none⟩ (.slice A1 k k1) := ⟨_, rfl⟩
    rw [← hW2] at hw2 hown2
    simp only [← hW2]
    clear hW2 ho1 c0' f0' hown1 hg1 hat1 c0 c1 f0 f1 cn vt one
    obtain ⟨hw3, hft3, hup3⟩ := hw2
    have c1 : W2.cell? ⟨p, 1, none⟩ = some (.slice (some ⟨b, off, none⟩) pts.length cap) := hw3.obj.cell 1
    have f1 : W2.frozen? ⟨p, 1, none⟩ = false := hw3.obj.frozen 1
    have vt2 := (View.of_own hw3.ps).take (k := n + 1) (by omega)
    have e9 : (Pt pts).take ((n + 1) * 1) = Pt (pts.take (n + 1)) := by unfold Pt; rw [Nat.mul_one, List.map_take]
    rw [e9] at vt2
    have one2 := Pt.one (pts.take (n + 1))
    have hbd2 : (n + 1) * 8 ≤ 140737488355328 := by omega
    have hbm2 : n + 1 ≤ maxLen := by simp only [maxLen]; omega
    have hsz2 : w.heap.size ≤ W2.drew.heap.size := hup3.size
    have e0 : 0 ≤ (n : Int) + 1 := by omega
    have q5 : (n : Int) + 1 ≤ (cap : Int) := by omega
    have e1 : IntKind.i64.wrap ((n : Int) + 1) = (n : Int) + 1 := IntWalk.i64_in _ (by omega)
    have e2 : ((n : Int) + 1).toNat = n + 1 := by omega
    replace vt2 := Lib.hid vt2
    replace one2 := Lib.hid one2
    clear e9
    go_wp2_with (at_builtin; refine wpList_append_new _ rfl (.const (.slice none 0 0)) (.tmp 38) _ rfl W2.heap.size 3 j0 (.int .i64 0) 1 8 Try.underlying32 hj0 hy0 hy1 hy2 rfl (by decide) rfl _ (n + 1) (Pt (pts.take (n + 1))) rfl vt2.out one2.out hbd2 hbm2 (Nat.le_refl _) ?_; intro A2 k2 w2 hown4 hk4 hk5 hk6 hg4 hat4; have ho4 := hw3.obj.grown hg4 (by simp); have c1' := ho4.cell 1; have f1' := ho4.frozen 1)
    go_ret2
    have hw5 := work_newps (T := 48) (by decide) (by decide) hw3 (w0 := W2) (Below.refl _ _) hg4 (pts' := pts.take (n + 1)) (by rw [List.length_take, Nat.min_eq_left (by omega)]; exact hown4)
    have hres := own_setCell (own_grown hown2 hg4 (by simp)) (p := ⟨p, 1, none⟩) (by intro hh; have := (hown2.lt p hh).1; omega) (.slice A2 (n + 1) k2)
    refine ⟨_, _, _, rfl, by simpa using hres, hw5.1, fun b hb => ?_, hup3.trans hw5.2.2 (fun b hb hf => ?_)⟩
    · rcases hw5.2.1 b hb with h1 | h1
      · exact hft3 b h1
      · exact .inr (Nat.le_trans hsz2 h1)
    · rcases hft3 b hf with h1 | h1
      · exact h1
      · omega
end Go.Proofs.Ytppcofcgdbflpaa
