/-
  Package undo and the reference's Work: the object in memory, slices.Clone of effects.
-/
import Derived.Test.YtppcofcgdbflpaaProg
import Derived.Test.YtppcofcgdbflpaaSl
import Derived.Deep.RegionLaw
import Derived.BigRegion
namespace Go.Proofs.Ytppcofcgdbflpaa
open Go.RowKit Go.Proofs.PosteMem

structure Eff where
  kind : Int
  obj : ByteArray
  key : ByteArray
  val : ByteArray
  n : Int
  lim : Int
  tried : Bool
  mid : Int
  mpri : Int
  mretry : Int
  mclaimed : Bool
  mcorr : ByteArray
  mbody : ByteArray
def Eff.cells (x : Eff) : List Value := [.int .i64 x.kind, .string x.obj, .string x.key, .string x.val, .int .i64 x.n, .int .i64 x.lim, .bool x.tried, .int .i64 x.mid, .int .i64 x.mpri, .int .i64 x.mretry, .bool x.mclaimed, .string x.mcorr, .string x.mbody]
theorem Eff.len (x : Eff) : x.cells.length = 13 := rfl
theorem Eff.one (L : List Eff) : ∀ u ∈ L.flatMap Eff.cells, u.oneCell' = true := by
  intro u hu
  obtain ⟨x, _, hx⟩ := List.mem_flatMap.1 hu
  simp only [Eff.cells, List.mem_cons, List.not_mem_nil, or_false] at hx
  rcases hx with rfl | rfl | rfl | rfl | rfl | rfl | rfl | rfl | rfl | rfl | rfl | rfl | rfl <;> rfl
def Pt (pts : List Nat) : List Value := pts.map fun (k : Nat) => Value.int .i64 (k : Int)
theorem Pt.one (pts : List Nat) : ∀ u ∈ Pt pts, u.oneCell' = true := by
  intro u hu
  obtain ⟨x, _, rfl⟩ := List.mem_map.1 hu
  rfl
def zEff : Value := .agg #[.int .i64 0, .string ⟨#[]⟩, .string ⟨#[]⟩, .string ⟨#[]⟩, .int .i64 0, .int .i64 0, .bool false, .int .i64 0, .int .i64 0, .int .i64 0, .bool false, .string ⟨#[]⟩, .string ⟨#[]⟩]
theorem info40 : (Try.prog.info? 40).map (fun i => (i.zero, i.size, i.bytes)) = some (some zEff, 13, 144) := by kernel_rfl
theorem info3 : (Try.prog.info? 3).map (fun i => (i.zero, i.size, i.bytes)) = some (some (.int .i64 0), 1, 8) := by kernel_rfl

set_option maxHeartbeats 1000000 in
/-- slices.Clone of effects: the same cells, in a row of its own. -/
theorem cloneEff (v : Value) (n : Nat) (xs : List Value) (w : World) (hv : View w 13 v n xs) (h1 : ∀ u ∈ xs, u.oneCell' = true) (hn : n * 144 ≤ 140737488355328) :
    Calls Try.prog 50 #[v] w fun e w' => ∃ v', e = .returned v' ∧ w'.ownsRow w.heap.size 40 13 v' n xs ∧ Below w.heap.size w w' := by
  obtain ⟨i0, hi0, hz0, hz1, hz2⟩ := info_parts info40
  obtain ⟨hl, A, cap, rfl, h2, h3, h4, h5⟩ := hv
  have hnil := fun (w : World) (a : Option Addr) (n c : Nat) => Lib.run_eql_slice_nil (P := Try.prog) w 34 40 a n c 0 0 Try.underlying34
  cases A with
  | none =>
    have hc := h4 rfl
    obtain rfl : n = 0 := by omega
    subst hc
    obtain rfl : xs = [] := List.eq_nil_of_length_eq_zero (by simpa using hl)
    go_enter Try.func50, Try.ntmps50
    go_wp2
    go_ret
    exact ⟨_, rfl, World.ownsRow_nil _ _ _ _, Below.refl _ _⟩
  | some a =>
    have hx : View (w.alloc (.cells #[] 40)) 13 (.slice (some a) n cap) n xs := View.alloc ⟨hl, some a, cap, rfl, h2, h3, h4, h5⟩ _
    go_enter Try.func50, Try.ntmps50
    go_wp2_with (at_builtin; refine wpList_append_view _ rfl (.tmp 5) (.tmp 6) _ rfl w.heap.size 40 i0 zEff 13 144 Try.underlying34 hi0 hz0 hz1 hz2 rfl (by omega) (.slice (some ⟨w.heap.size, 0, none⟩) 0 0) 0 [] rfl (World.ownsRow_made _ _ _ (Nat.le_refl _) (by simp) rfl) (.slice (some a) n cap) n xs rfl hx h1 (by omega) (by simp only [maxLen] at *; omega) (by simp) ?_; intro v1 w1 hown hg hat)
    go_ret
    exact ⟨v1, rfl, by simpa using hown, ((Below.refl _ _).alloc (Nat.le_refl _) _).grown hg (by simp) (by simp [Value.ownBlock])⟩


/-- The object: its changes, its points (T: its type). -/
structure IsWork (T : TypeId) (w : World) (B p : Nat) (lv pv : Value) (L : List Eff) (pts : List Nat) : Prop where
  obj : Whole w p T #[lv, pv]
  low : B ≤ p
  ls : w.ownsRow B 40 13 lv L.length (L.flatMap Eff.cells)
  ps : w.ownsRow B 3 1 pv pts.length (Pt pts)

def Foot (p : Nat) (lv pv : Value) (b : Nat) : Prop := b = p ∨ lv.ownBlock = some b ∨ pv.ownBlock = some b

section
variable {T : TypeId} {w w1 : World} {B p : Nat} {lv pv v1 : Value} {L : List Eff} {pts : List Nat}
theorem IsWork.upd {S : Nat → Prop} (h : IsWork T w B p lv pv L pts) (k : Upd S w w1) (hS : ∀ b, Foot p lv pv b → ¬ S b) : IsWork T w1 B p lv pv L pts :=
  ⟨h.obj.upd k (hS p (.inl rfl)), h.low, own_upd h.ls k fun b hb => hS b (.inr (.inl hb)), own_upd h.ps k fun b hb => hS b (.inr (.inr hb))⟩
theorem IsWork.below (h : IsWork T w B p lv pv L pts) (k : Below w.heap.size w w1) : IsWork T w1 B p lv pv L pts := h.upd (Upd.of_below (S := fun _ => False) k) (fun _ _ t => t)
theorem IsWork.drewN (h : IsWork T w B p lv pv L pts) (n : Nat) : IsWork T (w.drewN n) B p lv pv L pts := ⟨h.obj, h.low, h.ls, h.ps⟩
theorem IsWork.foot_lt (h : IsWork T w B p lv pv L pts) {b : Nat} (hb : Foot p lv pv b) : B ≤ b ∧ b < w.heap.size := by
  rcases hb with rfl | hb | hb
  · exact ⟨h.low, h.obj.lt⟩
  · exact h.ls.lt b hb
  · exact h.ps.lt b hb
theorem own_cases {M : Nat} (hat : v1.ownBlock = pv.ownBlock ∨ v1.ownBlock = some M) {b : Nat} (hb : v1.ownBlock = some b) : pv.ownBlock = some b ∨ b = M := by
  rcases hat with e | e
  · exact .inl (e ▸ hb)
  · rw [e] at hb; injection hb with hb; exact .inr hb.symm
/-- What the object is behind a store of its points. -/
theorem work_ps {o : Obj} {row : Option Nat} (hT : T ≠ 40) (hT3 : T ≠ 3) (h : IsWork T w B p lv pv L pts) (hrow : row = pv.ownBlock) (hg : (w.alloc o).drew.grownBy w1 row) {pts' : List Nat} (hown : w1.ownsRow B 3 1 v1 pts'.length (Pt pts')) (hat : v1.ownBlock = pv.ownBlock ∨ v1.ownBlock = some (w.alloc o).drew.heap.size) :
    IsWork T (w1.setCell ⟨p, 1, none⟩ v1) B p lv v1 L pts' ∧ (∀ b, Foot p lv v1 b → Foot p lv pv b ∨ w.heap.size ≤ b) ∧ Upd (Foot p lv pv) w (w1.setCell ⟨p, 1, none⟩ v1) := by
  subst hrow
  have hz : (w.alloc o).drew.heap.size = w.heap.size + 1 := by simp
  have ho1 : Whole w1 p T #[lv, pv] := (h.obj.alloc o).drew.grown hg (own_ne_whole h.ps h.obj (Ne.symm hT3))
  refine ⟨⟨ho1.set 1 v1, h.low, ?_, ?_⟩, ?_, ?_⟩
  · refine own_setCell (own_grown (own_drew (h.ls.alloc o)) hg (own_ne_own h.ls h.ps (by decide))) ?_ _
    exact own_ne_whole h.ls h.obj (Ne.symm hT)
  · exact own_setCell hown (own_ne_whole hown ho1 (Ne.symm hT3)) _
  · rintro b (rfl | hb | hb)
    · exact .inl (.inl rfl)
    · exact .inl (.inr (.inl hb))
    · rcases own_cases hat hb with e | e
      · exact .inl (.inr (.inr e))
      · exact .inr (by omega)
  · refine Upd.setCell ?_ (.inr (.inl rfl)) _
    have h1 : Upd (Foot p lv pv) w (w.alloc o).drew := ((Upd.refl _ _).alloc o).drew
    exact h1.trans (Upd.of_grown (S := Foot p lv pv) hg (fun k hk => .inr (.inr hk))) (fun _ _ h => h)
/-- What the object is behind a store of its changes. -/
theorem work_ls {row : Option Nat} {w0 : World} (hT : T ≠ 40) (hT3 : T ≠ 3) (h : IsWork T w B p lv pv L pts) (hw0 : Below w.heap.size w w0) (hrow : row = lv.ownBlock) (hg : w0.grownBy w1 row) {L' : List Eff} (hown : w1.ownsRow B 40 13 v1 L'.length (L'.flatMap Eff.cells)) (hat : v1.ownBlock = lv.ownBlock ∨ v1.ownBlock = some w0.heap.size) :
    IsWork T (w1.setCell ⟨p, 0, none⟩ v1) B p v1 pv L' pts ∧ (∀ b, Foot p v1 pv b → Foot p lv pv b ∨ w.heap.size ≤ b) ∧ Upd (Foot p lv pv) w (w1.setCell ⟨p, 0, none⟩ v1) := by
  subst hrow
  have hz : w.heap.size ≤ w0.heap.size := hw0.size
  have h0 := h.below hw0
  have ho1 : Whole w1 p T #[lv, pv] := h0.obj.grown hg (own_ne_whole h0.ls h0.obj (Ne.symm hT))
  refine ⟨⟨ho1.set 0 v1, h.low, ?_, ?_⟩, ?_, ?_⟩
  · exact own_setCell hown (own_ne_whole hown ho1 (Ne.symm hT)) _
  · refine own_setCell (own_grown h0.ps hg (own_ne_own h0.ps h0.ls (by decide))) ?_ _
    exact own_ne_whole h.ps h.obj (Ne.symm hT3)
  · rintro b (rfl | hb | hb)
    · exact .inl (.inl rfl)
    · rcases own_cases hat hb with e | e
      · exact .inl (.inr (.inl e))
      · exact .inr (by omega)
    · exact .inl (.inr (.inr hb))
  · refine Upd.setCell ?_ (.inr (.inl rfl)) _
    exact (Upd.of_below hw0 : Upd (Foot p lv pv) w w0).trans (Upd.of_grown (S := Foot p lv pv) hg (fun k hk => .inr (.inl hk))) (fun _ _ h => h)
end


set_option maxHeartbeats 2000000 in
theorem mark36 (w : World) (B p : Nat) (lv pv : Value) (L : List Eff) (pts : List Nat) (h : IsWork 36 w B p lv pv L pts) (hn : pts.length ≤ 1000) :
    Calls Try.prog 23 #[.pointer (some ⟨p, 0, none⟩)] w fun e w' => e = .returned (.int .i64 pts.length) ∧ ∃ pv', IsWork 36 w' B p lv pv' L (pts ++ [L.length]) ∧ (∀ b, Foot p lv pv' b → Foot p lv pv b ∨ w.heap.size ≤ b) ∧ Upd (Foot p lv pv) w w' := by
  have H := h
  obtain ⟨ho, hlow, hls, hps⟩ := h
  obtain ⟨i0, hi0, hz0, hz1, hz2⟩ := info_parts info3
  obtain ⟨Al, cl, rfl, hl1, hl2, hl3⟩ := own_shape hls
  have c0 : w.cell? ⟨p, 0, none⟩ = some (.slice Al L.length cl) := ho.cell 0
  have c1 : w.cell? ⟨p, 1, none⟩ = some pv := ho.cell 1
  have hlt := ho.lt
  have f1 : w.frozen? ⟨p, 1, none⟩ = false := ho.frozen 1
  obtain ⟨Ap, cp, rfl, hp1, hp2, hp3⟩ := own_shape hps
  go_enter Try.func23, Try.ntmps23
  go_wp2_with fail
  go_region_law (first | (refine step_append_view _ rfl (.tmp 9) (.tmp 15) _ rfl B 3 i0 (.int .i64 0) 1 8 Try.underlying32 hi0 hz0 hz1 hz2 rfl (by omega) (.slice Ap pts.length cp) pts.length (Pt pts) rfl ?c1 _ 1 [.int .i64 (L.length : Int)] rfl ?c2 ?c3 ?c4 ?c5 ?c6 ?_; (case c1 => exact hps.alloc _); (case c2 => exact View.box _ _ _ rfl); (case c3 => simp [Value.oneCell']); (case c4 => omega); (case c5 => simp only [maxLen]; omega); (case c6 => simp; omega); intro v1 w1 hown hg hat; obtain ⟨A1, k1, hv1, hk1, hk2, hk3⟩ := own_shape hown; rw [hv1] at hown hat ⊢; have ho1 := (ho.alloc _).drew.grown hg (own_ne_whole hps ho (by decide)); have c1' := ho1.cell 1; have f1' := ho1.frozen 1))
  all_goals
    go_wp2
    go_ret
    refine ⟨rfl, _, work_ps (by decide) (by decide) H rfl hg (pts' := pts ++ [L.length]) ?_ hat⟩
    rw [List.length_append, List.length_singleton]
    unfold Pt at hown ⊢
    rw [List.map_append]
    exact hown


set_option maxHeartbeats 2000000 in
theorem mark48 (w : World) (B p : Nat) (lv pv : Value) (L : List Eff) (pts : List Nat) (h : IsWork 48 w B p lv pv L pts) (hn : pts.length ≤ 1000) :
    Calls Try.prog 29 #[.pointer (some ⟨p, 0, none⟩)] w fun e w' => e = .returned (.int .i64 pts.length) ∧ ∃ pv', IsWork 48 w' B p lv pv' L (pts ++ [L.length]) ∧ (∀ b, Foot p lv pv' b → Foot p lv pv b ∨ w.heap.size ≤ b) ∧ Upd (Foot p lv pv) w w' := by
  have H := h
  obtain ⟨ho, hlow, hls, hps⟩ := h
  obtain ⟨i0, hi0, hz0, hz1, hz2⟩ := info_parts info3
  obtain ⟨Al, cl, rfl, hl1, hl2, hl3⟩ := own_shape hls
  have c0 : w.cell? ⟨p, 0, none⟩ = some (.slice Al L.length cl) := ho.cell 0
  have c1 : w.cell? ⟨p, 1, none⟩ = some pv := ho.cell 1
  have hlt := ho.lt
  have f1 : w.frozen? ⟨p, 1, none⟩ = false := ho.frozen 1
  obtain ⟨Ap, cp, rfl, hp1, hp2, hp3⟩ := own_shape hps
  go_enter Try.func29, Try.ntmps29
  go_wp2_with fail
  go_region_law (first | (refine step_append_view _ rfl (.tmp 7) (.tmp 13) _ rfl B 3 i0 (.int .i64 0) 1 8 Try.underlying32 hi0 hz0 hz1 hz2 rfl (by omega) (.slice Ap pts.length cp) pts.length (Pt pts) rfl ?c1 _ 1 [.int .i64 (L.length : Int)] rfl ?c2 ?c3 ?c4 ?c5 ?c6 ?_; (case c1 => exact hps.alloc _); (case c2 => exact View.box _ _ _ rfl); (case c3 => simp [Value.oneCell']); (case c4 => omega); (case c5 => simp only [maxLen]; omega); (case c6 => simp; omega); intro v1 w1 hown hg hat; obtain ⟨A1, k1, hv1, hk1, hk2, hk3⟩ := own_shape hown; rw [hv1] at hown hat ⊢; have ho1 := (ho.alloc _).drew.grown hg (own_ne_whole hps ho (by decide)); have c1' := ho1.cell 1; have f1' := ho1.frozen 1))
  all_goals
    go_wp2
    go_ret
    refine ⟨rfl, _, work_ps (by decide) (by decide) H rfl hg (pts' := pts ++ [L.length]) ?_ hat⟩
    rw [List.length_append, List.length_singleton]
    unfold Pt at hown ⊢
    rw [List.map_append]
    exact hown

end Go.Proofs.Ytppcofcgdbflpaa
