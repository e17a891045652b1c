/-
  Maps whose keys are places (an object and a key): the laws on them; what a transaction settles, in plain words.
-/
import Derived.Test.YtegomkgfmaclkaaVa
import Derived.Maps.Own
import Derived.Maps.Views
import Derived.DeepKeys4
set_option linter.unusedVariables false
set_option linter.unusedSimpArgs false
namespace Go.Proofs.Ytegomkgfmaclkaa
open Go.RowKit Go.Proofs.PosteOrd Go.Proofs.PosteMem Go.Maps

theorem place_laid : laidOutB Try.prog = true := by kernel_rfl
theorem place_row : 104 + 1 ≤ Try.prog.types.size := Nat.le_of_ble_eq_true (by kernel_rfl)
theorem law_place : Keyed Try.prog 104 := Keyed.of_law (deep_law_laid place_laid (m := 2) (by decide) place_row (by kernel_rfl) (by kernel_rfl))
def szS : Nat := 140737488351232
/-- A place as a map's key is told. -/
def KL (o k : ByteArray) : Lit := .string (keyBytes [.string o.data.toList, .string k.data.toList])
def pl (o k : ByteArray) : Value := .agg #[.string o, .string k]
theorem place_key {o k : ByteArray} (ho : o.size ≤ szS) (hk : k.size ≤ szS) : keyOf Try.prog 104 (pl o k) = some (KL o k) := by
  have h1 : Try.prog.keyType 104 = true := by kernel_rfl
  have hc : Try.prog.cellsOf 104 = 2 := by kernel_rfl
  have hs : Try.prog.cellsOf 9 = 1 := by kernel_rfl
  have h2 : (pl o k).formed Try.prog 104 = true := by
    unfold pl Value.formed
    simp only [Try.underlying104, hc]
    rfl
  obtain ⟨m, hm⟩ : ∃ m, Try.prog.types.size = m + 1 := ⟨Try.prog.types.size - 1, by have := place_row; omega⟩
  have ho' : o.size ≤ maxLen := by unfold szS at ho; unfold maxLen; omega
  have hk' : k.size ≤ maxLen := by unfold szS at hk; unfold maxLen; omega
  unfold keyOf
  simp only [Try.underlying104]
  rw [if_pos (by rw [h1, h2]; rfl), hm]
  unfold Program.keyLits
  simp only [Try.underlying104]
  rw [if_pos (by refine ⟨?_, by first | rfl | decide +kernel⟩; rw [hc]; rfl)]
  simp only [List.mapM_cons, List.mapM_nil, hs]
  unfold Program.keyLits
  simp only [Try.underlying9, pl, Value.cells]
  simp [ho', hk', KL]

theorem KL_inj {o k o' k' : ByteArray} (ho : o.size ≤ szS) (hk : k.size ≤ szS) (ho' : o'.size ≤ szS) (hk' : k'.size ≤ szS) (h : KL o k = KL o' k') : o = o' ∧ k = k' := by
  have h1 := law_place.inj (place_key ho hk) ((place_key ho' hk').trans (congrArg some h.symm))
  unfold pl at h1
  injection h1 with h1
  injection h1 with h1
  injection h1 with h1 h2
  injection h1 with h1
  injection h2 with h2
  injection h2 with h2
  exact ⟨h1, h2⟩
/-- A map of the call's own whose keys are places. -/
abbrev OM (w : World) (b n : Nat) (D : DataW Value) : Prop := w.ownsMap Try.prog 104 (fun v => some (.held v, [])) b n D
theorem OM.keep {w w' : World} {b n : Nat} {D : DataW Value} {S : Nat → Prop} (h : OM w b n D) (k : Upd S w w') (hS : ¬ S b) : OM w' b n D := by
  have hlt := World.ownsMap.lt h
  obtain ⟨es, clock, h1, F, hs, hD⟩ := h
  exact ⟨es, clock, (k.block b hlt hS).trans h1, F, hs, hD⟩
theorem OM.below {w w' : World} {b n : Nat} {D : DataW Value} (h : OM w b n D) (k : Below w.heap.size w w') : OM w' b n D := h.keep (Upd.of_below (S := fun _ => False) k) (fun t => t)
/-- What a map has at each place; z where it has nothing. -/
def MapIs (z : Value) (D : DataW Value) (f : ByteArray → ByteArray → Value) : Prop := IsMap D ∧ ∀ o k : ByteArray, o.size ≤ szS → k.size ≤ szS → D.atKey (KL o k) (.held z) = .held (f o k)
theorem MapIs.nil (z : Value) : MapIs z (.map []) (fun _ _ => z) := ⟨⟨_, rfl⟩, fun _ _ _ _ => rfl⟩
theorem MapIs.put {z : Value} {D : DataW Value} {f : ByteArray → ByteArray → Value} (h : MapIs z D f) {o k : ByteArray} (ho : o.size ≤ szS) (hk : k.size ≤ szS) (v : Value) : MapIs z (D.put (KL o k) (.held v)) (fun o' k' => if o' = o ∧ k' = k then v else f o' k') := by
  obtain ⟨hm, h2⟩ := h
  refine ⟨?_, fun o' k' ho' hk' => ?_⟩
  · obtain ⟨es, rfl⟩ := hm
    exact ⟨_, rfl⟩
  · by_cases e : o' = o ∧ k' = k
    · obtain ⟨rfl, rfl⟩ := e
      simp only [and_self, if_true]
      exact atKey_put_same hm (law_place.key (place_key ho hk)) _ _
    · simp only [e, if_false]
      rw [atKey_put_other (fun h => e (KL_inj ho' hk' ho hk h))]
      exact h2 o' k' ho' hk'
theorem MapIs.congr {z : Value} {D : DataW Value} {f g : ByteArray → ByteArray → Value} (h : MapIs z D f) (e : ∀ o k, f o k = g o k) : MapIs z D g := ⟨h.1, fun o k ho hk => by rw [h.2 o k ho hk, e]⟩
theorem OM.look {w : World} {b n : Nat} {D : DataW Value} {z : Value} {f : ByteArray → ByteArray → Value} (h : OM w b n D) (hf : MapIs z D f) {t e : TypeId} (ht : Try.prog.underlying t = some (.map 104 e)) (hz : (zeroValue e).run Try.prog w = .ok z w) {o k : ByteArray} (ho : o.size ≤ szS) (hk : k.size ≤ szS) :
    (Instr.lookup t (.map (some b)) (pl o k) false).run Try.prog w = .ok (f o k) w := by
  obtain ⟨v, ps, h1, h2⟩ := World.ownsMap.lookup h law_place ht hz rfl (place_key ho hk)
  have h3 := hf.2 o k ho hk
  have h4 := congrArg (fun x => x.map Prod.fst) h2
  have h5 : DataW.held v = D.atKey (KL o k) (.held z) := Option.some.inj h4
  have h6 : v = f o k := DataW.held.inj (h5.trans h3)
  exact h1.trans (by rw [h6])
theorem zero_ef (w : World) : (zeroValue 50).run Try.prog w = .ok zEf w := by kernel_rfl
theorem zero_bool (w : World) : (zeroValue 4).run Try.prog w = .ok (.bool false) w := by kernel_rfl

/-- Does an effect put or cut that row? -/
def onR (e : Ef) : Bool := decide (e.kind = 2) || decide (e.kind = 3)
def at_ (o k : ByteArray) (e : Ef) : Bool := onR e && decide (e.obj = o) && decide (e.key = k)
/-- The last effect on a row. -/
def lastOf (E : List Ef) (o k : ByteArray) : Option Ef := E.foldl (fun a e => if at_ o k e = true then some e else a) none
theorem last_snoc (E : List Ef) (e : Ef) (o k : ByteArray) : lastOf (E ++ [e]) o k = if at_ o k e = true then some e else lastOf E o k := by
  unfold lastOf
  rw [List.foldl_append]
  rfl
theorem last_take {E : List Ef} {i : Nat} (hi : i < E.length) (o k : ByteArray) : lastOf (E.take (i + 1)) o k = if at_ o k E[i] = true then some E[i] else lastOf (E.take i) o k := by
  rw [List.take_succ_eq_append_getElem hi, last_snoc]
def met (E : List Ef) (o k : ByteArray) : Bool := E.any (at_ o k)
theorem met_take {E : List Ef} {i : Nat} (hi : i < E.length) (o k : ByteArray) : met (E.take (i + 1)) o k = (met (E.take i) o k || at_ o k E[i]) := by
  unfold met
  rw [List.take_succ_eq_append_getElem hi, List.any_append]
  simp
/-- What is there of a row. -/
def thereB (L : List Ob) (e : Ef) : Bool := (look (baseR L e.obj) e.key).isSome
def keepE (L : List Ob) (e : Ef) : List Ef := if e.kind = 2 ∨ thereB L e = true then [e] else []
def stepE (L : List Ob) (E : List Ef) (i : Nat) (e : Ef) : List Ef :=
  if e.kind = 4 ∨ e.kind = 5 then [e] else if onR e = true then if met (E.take i) e.obj e.key = true then [] else ((lastOf E e.obj e.key).map (keepE L)).getD [] else []
/-- What is left to be done. -/
def settleTo (L : List Ob) (E : List Ef) (n : Nat) : List Ef := (List.range n).flatMap fun i => ((E[i]?).map (stepE L E i)).getD []
theorem settle_succ {L : List Ob} {E : List Ef} {i : Nat} (hi : i < E.length) : settleTo L E (i + 1) = settleTo L E i ++ stepE L E i E[i] := by
  unfold settleTo
  rw [List.range_succ, List.flatMap_append, List.flatMap_cons, List.flatMap_nil, List.append_nil]
  simp [hi]
theorem stepE_len (L : List Ob) (E : List Ef) (i : Nat) (e : Ef) : (stepE L E i e).length ≤ 1 := by
  unfold stepE
  split
  · exact Nat.le_refl _
  · split
    · split
      · exact Nat.zero_le _
      · cases lastOf E e.obj e.key with
        | none => exact Nat.zero_le _
        | some x =>
          show (keepE L x).length ≤ 1
          unfold keepE
          split
          · exact Nat.le_refl _
          · exact Nat.zero_le _
    · exact Nat.zero_le _
theorem settle_len {L : List Ob} {E : List Ef} : ∀ {n : Nat}, n ≤ E.length → (settleTo L E n).length ≤ n
  | 0, _ => Nat.le_refl _
  | n + 1, h => by
    rw [settle_succ (by omega), List.length_append]
    have h1 := settle_len (L := L) (E := E) (n := n) (by omega)
    have h2 := stepE_len L E n (E[n]'(by omega))
    omega
theorem last_some {E : List Ef} {i : Nat} (hi : i < E.length) {o k : ByteArray} (h : at_ o k E[i] = true) : ∃ e, lastOf E o k = some e ∧ at_ o k e = true := by
  have hx : ∀ n, i < n → n ≤ E.length → ∃ e, lastOf (E.take n) o k = some e ∧ at_ o k e = true := by
    intro n
    induction n with
    | zero => intro h; omega
    | succ n ih =>
      intro h1 h2
      rw [last_take (by omega)]
      by_cases h3 : at_ o k (E[n]'(by omega)) = true
      · rw [if_pos h3]; exact ⟨_, rfl, h3⟩
      · rw [if_neg h3]
        rcases Nat.lt_or_ge i n with h4 | h4
        · exact ih h4 (by omega)
        · obtain rfl : i = n := by omega
          exact absurd h h3
  have := hx E.length hi (Nat.le_refl _)
  rwa [List.take_length] at this
end Go.Proofs.Ytegomkgfmaclkaa
