/-
  What is settled leaves of each table just what the transaction saw: in plain words, no program in sight.
-/
import Derived.Test.YtegomkgfmaclkaaVg
set_option linter.unusedVariables false
set_option linter.unusedSimpArgs false
namespace Go.Proofs.Ytegomkgfmaclkaa
open Go.RowKit Go.Proofs.PosteOrd Go.Proofs.PosteMem

/-- What an effect leaves at its row's key. -/
def putOf (e : Ef) : Option ByteArray := if e.kind = 2 then some e.val else none
theorem at_iff {o k : ByteArray} {e : Ef} : at_ o k e = true ↔ (e.kind = 2 ∨ e.kind = 3) ∧ e.obj = o ∧ e.key = k := by
  unfold at_ onR
  simp only [Bool.and_eq_true, Bool.or_eq_true, decide_eq_true_eq, and_assoc]
theorem tab1_look {n : ByteArray} {R : List Row} {e : Ef} (h : Srt R) (k : ByteArray) : look (tab1 n R e) k = if at_ n k e = true then putOf e else look R k := by
  unfold tab1 putOf
  by_cases h1 : e.obj = n
  · rw [if_pos h1]
    by_cases h2 : e.kind = 2
    · rw [if_pos h2, look_put]
      by_cases h3 : e.key = k
      · rw [if_pos h3, if_pos (at_iff.2 ⟨.inl h2, h1, h3⟩), if_pos h2]
      · rw [if_neg h3, if_neg (fun h => h3 (at_iff.1 h).2.2)]
    · rw [if_neg h2]
      by_cases h4 : e.kind = 3
      · rw [if_pos h4, look_cut h]
        by_cases h3 : e.key = k
        · rw [if_pos h3, if_pos (at_iff.2 ⟨.inr h4, h1, h3⟩), if_neg h2]
        · rw [if_neg h3, if_neg (fun h => h3 (at_iff.1 h).2.2)]
      · rw [if_neg h4, if_neg (fun h => by rcases (at_iff.1 h).1 with h | h; exact h2 h; exact h4 h)]
  · rw [if_neg h1, if_neg (fun h => h1 (at_iff.1 h).2.1)]
/-- What rows have behind effects: what the last one on a key left. -/
theorem tabs_look {n : ByteArray} (k : ByteArray) : ∀ (E : List Ef) (R : List Row), Srt R → look (E.foldl (tab1 n) R) k = match lastOf E n k with | some e => putOf e | none => look R k := by
  intro E R h
  have hx : ∀ i, i ≤ E.length → look ((E.take i).foldl (tab1 n) R) k = match lastOf (E.take i) n k with | some e => putOf e | none => look R k := by
    intro i
    induction i with
    | zero => intro _; rfl
    | succ i ih =>
      intro hi
      rw [tabs_take (by omega), tab1_look (tabs_srt _ h), last_take (by omega), ih (by omega)]
      by_cases h1 : at_ n k (E[i]'(by omega)) = true
      · rw [if_pos h1, if_pos h1]
      · rw [if_neg h1, if_neg h1]
  have := hx E.length (Nat.le_refl _)
  rwa [List.take_length] at this
theorem look_mem {L : List Row} (hs : Srt L) {y : Row} : y ∈ L ↔ look L y.key = some y.val := by
  induction L with
  | nil => simp [look_nil]
  | cons z L ih =>
    obtain ⟨hz, hs'⟩ := List.pairwise_cons.1 hs
    rw [look_cons]
    by_cases h : z.key = y.key
    · rw [if_pos h]
      constructor
      · intro hm
        rcases List.mem_cons.1 hm with rfl | hm
        · rfl
        · exact absurd (hz y hm) (by rw [h]; exact lt_irrefl _)
      · intro e
        have e9 := Option.some.inj e
        clear e
        obtain ⟨k1, v1⟩ := z
        obtain ⟨k2, v2⟩ := y
        simp only at h e9
        subst h e9
        exact List.mem_cons_self
    · rw [if_neg h, ← ih hs']
      exact ⟨fun hm => (List.mem_cons.1 hm).resolve_left (fun e => h (by rw [e])), fun hm => List.mem_cons_of_mem _ hm⟩
theorem srt_same {L M : List Row} (hL : Srt L) (hM : Srt M) (h : ∀ y, y ∈ L ↔ y ∈ M) : L = M := by
  induction L generalizing M with
  | nil =>
    cases M with
    | nil => rfl
    | cons y M => exact absurd ((h y).2 List.mem_cons_self) (by simp)
  | cons x L ih =>
    cases M with
    | nil => exact absurd ((h x).1 List.mem_cons_self) (by simp)
    | cons y M =>
      have hL' := List.pairwise_cons.1 hL
      have hM' := List.pairwise_cons.1 hM
      have e : x = y := by
        rcases List.mem_cons.1 ((h x).1 List.mem_cons_self) with e | h1
        · exact e
        · rcases List.mem_cons.1 ((h y).2 List.mem_cons_self) with e | h2
          · exact e.symm
          · exact (lt_asymm (hL'.1 _ h2) (hM'.1 _ h1)).elim
      subst e
      rw [ih hL'.2 hM'.2 fun z => ⟨fun hz => by
        rcases List.mem_cons.1 ((h z).1 (List.mem_cons_of_mem _ hz)) with rfl | h1
        · exact (lt_irrefl _ (hL'.1 _ hz)).elim
        · exact h1, fun hz => by
        rcases List.mem_cons.1 ((h z).2 (List.mem_cons_of_mem _ hz)) with rfl | h1
        · exact (lt_irrefl _ (hM'.1 _ hz)).elim
        · exact h1⟩]
theorem look_same {L M : List Row} (hL : Srt L) (hM : Srt M) (h : ∀ k, look L k = look M k) : L = M :=
  srt_same hL hM fun y => by rw [look_mem hL, look_mem hM, h]
/-- What is kept of the last effect on a row. -/
def keptOf (L : List Ob) (E : List Ef) (o k : ByteArray) : Option Ef := (lastOf E o k).bind fun e => if e.kind = 2 ∨ thereB L e = true then some e else none
theorem last_nil (o k : ByteArray) : lastOf [] o k = none := rfl
theorem keep_cases (L : List Ob) (e : Ef) : (keepE L e = [e] ∧ (e.kind = 2 ∨ thereB L e = true)) ∨ (keepE L e = [] ∧ ¬ (e.kind = 2 ∨ thereB L e = true)) := by
  unfold keepE
  by_cases h : e.kind = 2 ∨ thereB L e = true
  · exact .inl ⟨if_pos h, h⟩
  · exact .inr ⟨if_neg h, h⟩
/-- Effects on rows alone. -/
def OnRows (E : List Ef) : Prop := ∀ e ∈ E, e.kind = 2 ∨ e.kind = 3
theorem on_of {e : Ef} (h : e.kind = 2 ∨ e.kind = 3) : onR e = true := by
  unfold onR
  rcases h with h | h <;> simp [h]
theorem step_rows {L : List Ob} {E : List Ef} (hE : OnRows E) {i : Nat} (hi : i < E.length) : stepE L E i E[i] = if met (E.take i) E[i].obj E[i].key = true then [] else ((lastOf E E[i].obj E[i].key).map (keepE L)).getD [] := by
  have h := hE _ (List.getElem_mem hi)
  unfold stepE
  rw [if_neg (by rcases h with h | h <;> rw [h] <;> decide), if_pos (on_of h)]
theorem at_self {e : Ef} (h : e.kind = 2 ∨ e.kind = 3) : at_ e.obj e.key e = true := at_iff.2 ⟨h, rfl, rfl⟩
theorem settle_last {L : List Ob} {E : List Ef} (hE : OnRows E) (o k : ByteArray) : ∀ i, i ≤ E.length → lastOf (settleTo L E i) o k = if met (E.take i) o k = true then keptOf L E o k else none := by
  intro i
  induction i with
  | zero => intro _; rfl
  | succ i ih =>
    intro hi
    have hlt : i < E.length := by omega
    have hk := hE _ (List.getElem_mem hlt)
    rw [settle_succ hlt, step_rows hE hlt, met_take hlt]
    by_cases hm : met (E.take i) E[i].obj E[i].key = true
    · rw [if_pos hm, List.append_nil, ih (by omega)]
      by_cases ha : at_ o k E[i] = true
      · obtain ⟨_, rfl, rfl⟩ := at_iff.1 ha
        rw [if_pos hm, if_pos (by rw [hm]; rfl)]
      · rw [Bool.not_eq_true] at ha
        rw [ha, Bool.or_false]
    · rw [if_neg hm]
      obtain ⟨y, hy1, hy2⟩ := last_some hlt (at_self hk)
      obtain ⟨hyk, hyo, hyy⟩ := at_iff.1 hy2
      rw [hy1, Option.map_some, Option.getD_some]
      have ihh := ih (by omega)
      by_cases ha : at_ o k E[i] = true
      · obtain ⟨_, ho, hkk⟩ := at_iff.1 ha
        subst ho hkk
        rw [if_neg hm] at ihh
        rw [ha, Bool.or_true, if_pos rfl]
        unfold keptOf
        rw [hy1, Option.bind_some]
        rcases keep_cases L y with ⟨h1, h2⟩ | ⟨h1, h2⟩
        · rw [h1, last_snoc, if_pos hy2, if_pos h2]
        · rw [h1, List.append_nil, ihh, if_neg h2]
      · have hay : ¬ at_ o k y = true := fun h => by
          obtain ⟨_, e1, e2⟩ := at_iff.1 h
          exact ha (at_iff.2 ⟨hk, by rw [← hyo, e1], by rw [← hyy, e2]⟩)
        rw [Bool.not_eq_true] at ha
        rw [ha, Bool.or_false, ← ihh]
        rcases keep_cases L y with ⟨h1, h2⟩ | ⟨h1, h2⟩
        · rw [h1, last_snoc, if_neg hay]
        · rw [h1, List.append_nil]
theorem last_met {E : List Ef} {o k : ByteArray} : met E o k = false → lastOf E o k = none := by
  intro h
  have hx : ∀ i, i ≤ E.length → lastOf (E.take i) o k = none := by
    intro i
    induction i with
    | zero => intro _; rfl
    | succ i ih =>
      intro hi
      rw [last_take (by omega), ih (by omega), if_neg]
      intro ha
      unfold met at h
      rw [List.any_eq_false] at h
      exact h _ (List.getElem_mem _) ha
  have := hx E.length (Nat.le_refl _)
  rwa [List.take_length] at this
/-- What is settled leaves of a table what the transaction saw of it. -/
theorem settle_tab {L : List Ob} {E : List Ef} (hE : OnRows E) (n : ByteArray) (hs : Srt (baseR L n)) : (settleTo L E E.length).foldl (tab1 n) (baseR L n) = E.foldl (tab1 n) (baseR L n) := by
  refine look_same (tabs_srt _ hs) (tabs_srt _ hs) fun k => ?_
  rw [tabs_look k _ _ hs, tabs_look k _ _ hs, settle_last hE n k _ (Nat.le_refl _), List.take_length]
  by_cases hm : met E n k = true
  · rw [if_pos hm]
    unfold keptOf
    cases hl : lastOf E n k with
    | none => rfl
    | some e =>
      rw [Option.bind_some]
      by_cases h : e.kind = 2 ∨ thereB L e = true
      · rw [if_pos h]
      · rw [if_neg h]
        have hat : at_ n k e = true := by
          unfold met at hm
          rw [List.any_eq_true] at hm
          obtain ⟨x, hx, hxa⟩ := hm
          obtain ⟨i, hi, rfl⟩ := List.getElem_of_mem hx
          obtain ⟨y, h1, h2⟩ := last_some hi hxa
          rw [hl] at h1
          obtain rfl := Option.some.inj h1
          exact h2
        obtain ⟨_, ho, hk⟩ := at_iff.1 hat
        have h1 : ¬ e.kind = 2 := fun h2 => h (.inl h2)
        have h2 : (look (baseR L n) k).isSome = false := by
          have : ¬ thereB L e = true := fun h3 => h (.inr h3)
          unfold thereB at this
          rw [ho, hk] at this
          simpa using this
        show look (baseR L n) k = putOf e
        unfold putOf
        rw [if_neg h1]
        rwa [Option.isSome_eq_false_iff, Option.isNone_iff_eq_none] at h2
  · rw [if_neg hm, last_met (by simpa using hm)]
/-- No row is there twice among what is settled. -/
theorem settle_once {L : List Ob} {E : List Ef} (hE : OnRows E) : ∀ i, i ≤ E.length → (settleTo L E i).Pairwise (fun a b => ¬ (a.obj = b.obj ∧ a.key = b.key)) ∧ ∀ e ∈ settleTo L E i, e ∈ E ∧ met (E.take i) e.obj e.key = true ∧ (e.kind = 2 ∨ thereB L e = true) := by
  intro i
  induction i with
  | zero => intro _; exact ⟨List.Pairwise.nil, fun e he => by cases he⟩
  | succ i ih =>
    intro hi
    have hlt : i < E.length := by omega
    have hk := hE _ (List.getElem_mem hlt)
    obtain ⟨i1, i2⟩ := ih (by omega)
    rw [settle_succ hlt, step_rows hE hlt]
    have hup : ∀ o k, met (E.take i) o k = true → met (E.take (i + 1)) o k = true := fun o k h => by rw [met_take hlt, h]; rfl
    by_cases hm : met (E.take i) E[i].obj E[i].key = true
    · rw [if_pos hm, List.append_nil]
      exact ⟨i1, fun e he => ⟨(i2 e he).1, hup _ _ (i2 e he).2.1, (i2 e he).2.2⟩⟩
    · rw [if_neg hm]
      obtain ⟨y, hy1, hy2⟩ := last_some hlt (at_self hk)
      obtain ⟨hyk, hyo, hyy⟩ := at_iff.1 hy2
      rw [hy1, Option.map_some, Option.getD_some]
      rcases keep_cases L y with ⟨h1, h2⟩ | ⟨h1, h2⟩
      · rw [h1]
        refine ⟨List.pairwise_append.2 ⟨i1, List.pairwise_singleton _ _, fun a ha b hb => ?_⟩, fun e he => ?_⟩
        · obtain rfl := List.mem_singleton.1 hb
          rintro ⟨e1, e2⟩
          have := (i2 a ha).2.1
          rw [e1, e2, hyo, hyy] at this
          exact hm this
        · rcases List.mem_append.1 he with he | he
          · exact ⟨(i2 e he).1, hup _ _ (i2 e he).2.1, (i2 e he).2.2⟩
          · obtain rfl := List.mem_singleton.1 he
            refine ⟨?_, ?_, h2⟩
            · have hmem : ∀ n, ∀ z, lastOf (E.take n) E[i].obj E[i].key = some z → n ≤ E.length → z ∈ E := by
                intro n
                induction n with
                | zero => intro z hz _; cases hz
                | succ n ihn =>
                  intro z hz hn
                  rw [last_take (by omega)] at hz
                  by_cases h3 : at_ E[i].obj E[i].key (E[n]'(by omega)) = true
                  · rw [if_pos h3] at hz
                    obtain rfl := Option.some.inj hz
                    exact List.getElem_mem _
                  · rw [if_neg h3] at hz
                    exact ihn z hz (by omega)
              exact hmem E.length e (by rw [List.take_length]; exact hy1) (Nat.le_refl _)
            · rw [met_take hlt, hyo, hyy, at_self hk, Bool.or_true]
      · rw [h1, List.append_nil]
        exact ⟨i1, fun e he => ⟨(i2 e he).1, hup _ _ (i2 e he).2.1, (i2 e he).2.2⟩⟩
/-- A row that is to be cut is still there. -/
theorem settle_there {L : List Ob} {E : List Ef} (hE : OnRows E) {j : Nat} (hj : j < (settleTo L E E.length).length) (h3 : (settleTo L E E.length)[j].kind = 3) (hs : Srt (baseR L (settleTo L E E.length)[j].obj)) :
    (look (((settleTo L E E.length).take j).foldl (tab1 (settleTo L E E.length)[j].obj) (baseR L (settleTo L E E.length)[j].obj)) (settleTo L E E.length)[j].key).isSome = true := by
  obtain ⟨h1, h2⟩ := settle_once (L := L) hE E.length (Nat.le_refl _)
  generalize settleTo L E E.length = T at *
  have hth : thereB L T[j] = true := by
    rcases (h2 _ (List.getElem_mem hj)).2.2 with h | h
    · rw [h3] at h; exact absurd h (by decide)
    · exact h
  rw [tabs_look _ _ _ hs]
  have hn : lastOf (T.take j) T[j].obj T[j].key = none := by
    refine last_met ?_
    rw [Bool.eq_false_iff]
    intro hm
    unfold met at hm
    rw [List.any_eq_true] at hm
    obtain ⟨x, hx, hxa⟩ := hm
    obtain ⟨i, hi, rfl⟩ := List.getElem_of_mem hx
    obtain ⟨_, e1, e2⟩ := at_iff.1 hxa
    rw [List.length_take] at hi
    rw [List.getElem_take] at e1 e2
    exact List.pairwise_iff_getElem.1 h1 i j (by omega) hj (by omega) ⟨e1, e2⟩
  rw [hn]
  exact hth
end Go.Proofs.Ytegomkgfmaclkaa
