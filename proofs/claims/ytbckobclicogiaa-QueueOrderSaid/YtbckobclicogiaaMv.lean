/-
  Messages: slices.Delete of one message, by its contract.
-/
import Derived.Test.YtbckobclicogiaaMt
import Derived.Test.YtbckobclicogiaaSl5
set_option linter.unusedVariables false
namespace Go.Proofs.Ytbckobclicogiaa
open Go.RowKit Go.Proofs.PosteMem

theorem zMsg_cells : zMsg.cells = #[.int .i64 0, .int .i64 0, .int .i64 0, .bool false, .string ⟨#[]⟩, .string ⟨#[]⟩] := rfl
theorem zMsg_one : ∀ u ∈ zMsg.cells.toList, u.oneCell' = true := by
  intro u hu
  rw [zMsg_cells] at hu
  simp only [List.mem_cons, List.not_mem_nil, or_false] at hu
  rcases hu with rfl | rfl | rfl | rfl | rfl | rfl <;> rfl
theorem splice_erase (L : List Msg) (i : Nat) (hi : i < L.length) : (splice (L.flatMap Msg.cells) (i * 6) ((L.drop (i + 1)).flatMap Msg.cells)).take ((L.length - 1) * 6) = (L.eraseIdx i).flatMap Msg.cells := by
  rw [take_splice _ _ _ _ (by rw [flatMap_len _ 6 Msg.len, List.length_drop]; omega) (by rw [flatMap_len _ 6 Msg.len]; omega)]
  unfold splice
  have e1 : (L.flatMap Msg.cells).length = L.length * 6 := flatMap_len _ 6 Msg.len L
  have e2 : ((L.drop (i + 1)).flatMap Msg.cells).length = (L.length - (i + 1)) * 6 := by rw [flatMap_len _ 6 Msg.len, List.length_drop]
  have e3 : List.drop (i * 6 + ((L.drop (i + 1)).flatMap Msg.cells).length) ((L.flatMap Msg.cells).take ((L.length - 1) * 6)) = [] := List.drop_eq_nil_of_le (by rw [List.length_take, e1, e2]; omega)
  rw [e3, List.append_nil, List.take_take, Nat.min_eq_left (by omega), flatMap_take _ 6 Msg.len, ← List.flatMap_append, List.eraseIdx_eq_take_drop_succ]

set_option maxHeartbeats 4000000 in
theorem delete_any (w : World) (B : Nat) (v : Value) (L : List Msg) (i : Nat) (h : OMsgs w B v L) (hi : i < L.length) (hm : L.length ≤ 1000000) :
    Calls Try.prog 39 #[v, .int .i64 i, .int .i64 ((i : Int) + 1)] w fun e w' => ∃ v', e = .returned v' ∧ OMsgs w' B v' (L.eraseIdx i) ∧ Upd (fun b => v.ownBlock = some b) w w' ∧ v'.ownBlock = v.ownBlock := by
  obtain ⟨i0, hi0, hz0, hz1, hz2⟩ := info_parts infoMsg
  unfold OMsgs at h
  obtain ⟨g, cap, rfl, hc, hcm, hB, hg⟩ := own_some h (by omega)
  have hv := View.drop (k := i + 1) (View.of_own h) (by omega)
  rw [flatMap_drop _ 6 Msg.len] at hv
  simp only [Option.map_some, addr_row] at hv
  obtain ⟨w1, hr1, ho1, hu1⟩ := run_append_in (P := Try.prog) (w := w.drew) 23 23 i0 Try.underlying23 hi0 hz1 (own_drew h) i _ _ _ (View.drew hv) (Msg.one _) (by omega)
  obtain ⟨k, hk⟩ : ∃ k, L.length = k + 1 := ⟨L.length - 1, by omega⟩
  rw [show i + (L.length - (i + 1)) = k by omega] at hr1
  obtain ⟨w2, hr2, ho2, hu2⟩ := run_clear_in (P := Try.prog) (w := w1) (sz := 6) 23 0 i0 zMsg Try.underlying23 hi0 hz0 rfl zMsg_one ho1 (k * 6) (L.length - k) (cap - k) (by omega)
  have hf : w2.ownsRow B 34 6 (.slice (some ⟨g, 0, none⟩) k cap) k ((L.eraseIdx i).flatMap Msg.cells) := by
    obtain ⟨A, c, e, ho3⟩ := own_take ho2 (k := k) (by omega)
    injection e with e1 e2 e3
    subst e1 e3
    have e4 : (splice (splice (L.flatMap Msg.cells) (i * 6) ((L.drop (i + 1)).flatMap Msg.cells)) (k * 6) (Builtin.zeroCells zMsg.cells (L.length - k)).toList).take (k * 6) = (L.eraseIdx i).flatMap Msg.cells := by
      rw [← splice_erase L i hi, show L.length - 1 = k by omega]
      generalize hS : splice (L.flatMap Msg.cells) (i * 6) ((L.drop (i + 1)).flatMap Msg.cells) = S at *
      have hl := ho1.1
      unfold splice
      rw [List.take_append_of_le_length (by rw [List.length_take]; omega), List.take_take, Nat.min_self]
    rw [e4] at ho3
    exact ho3
  have hup : Upd (fun b => b = g) w w2 := ((Upd.refl _ w).drew.trans hu1 (fun _ _ h => h)).trans hu2 (fun _ _ h => h)
  replace hr1 := Lib.hid hr1
  replace hr2 := Lib.hid hr2
  have e1 : (L.eraseIdx i).length = k := by rw [List.length_eraseIdx_of_lt hi]; omega
  replace hf := Lib.hid hf
  clear h hv ho1 ho2
  have q1 : ((i : Int) == (i : Int) + 1) = false := beq_eq_false_iff_ne.2 (by omega)
  have q2 : i ≤ cap := by omega
  have q3 : i + 1 ≤ L.length := hi
  have q4 : i + 1 ≤ cap := by omega
  have q5 : (0 : Int) ≤ (i : Int) + 1 := by omega
  have q6 : (i : Int) + 1 ≤ (L.length : Int) := by omega
  have q7 : k ≤ L.length := by omega
  have q9 : ¬ cap = k := by omega
  have q10 : (k : Int) ≤ (L.length : Int) := by omega
  have q11 : k ≤ cap := by omega
  replace hk := Lib.hid hk
  have q8 : L.length ≤ cap := by omega
  generalize hn : L.length = n at *
  replace hn := Lib.hid hn
  replace e1 := Lib.hid e1
  go_enter Try.func39, Try.ntmps39
  go_wp2_with fail
  go_region_law ((refine step_append_run rfl (.tmp 22) (.tmp 25) _ _ rfl _ _ rfl rfl hr1.out ?_))
  go_wp2_with (refine wpList_clear_run (o := ⟨none, _, _, _, _, _⟩) rfl (.tmp 31) _ rfl _ rfl hr2.out ?_)
  all_goals
    go_ret
    refine ⟨_, rfl, ?_, hup.mono (fun b _ e => by rw [e]; rfl), rfl⟩
    unfold OMsgs
    rw [e1.out]
    first
      | exact hf.out
      | (have hh := hf.out
         rw [show cap = i + 1 by assumption] at hh
         exact hh)
end Go.Proofs.Ytbckobclicogiaa
