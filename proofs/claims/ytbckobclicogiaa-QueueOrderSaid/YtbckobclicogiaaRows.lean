/-
  No cell of these rows narrows 'for every input' (looked for: loops, veiled, ifaces, maps, wideKeys, modest, calm, conditions, laid).
  DERIVED. THE GIVEN ROWS OF THIS SEAT. 9 by the template 'for every input the law returns true; each argument reads behind the call as it read before'; 0 by the template 'total and deterministic' (their statements: YtbckobclicogiaaTotals.lean).
  GIVEN WITH THE SEED: the statements are not yours to turn. If you find one false, say at which input.
  Laid BY PROGRAM, IN A SANDBOX (cutbox-rows.mjs): the forced cells as the released guide's own fill.sh prints them over the translation 0fcc1ddc7b9dda2b… (all of the seat's roots in one cut). By AI agents, Wed Nov 11 2026. No macro, syntax, notation, axiom, sorry.
-/
import Derived.Test.YtbckobclicogiaaChecked
import GoSem.Claim
import GoSem.ClaimJoined
import GoSem.ClaimMapViews
import Derived.JoinedTies
import Derived.KernelRfl
namespace Go.Proofs.Ytbckobclicogiaa
/- THE CELL 'sum', in the pinned program and in every row, IS THE sha256 OF THE DUMP (.gsa) THAT YtbckobclicogiaaProg.lean LOADS. Nothing in Lean hashes anything: it is a label: what it is worth is what the hold of that sum in a sandbox is worth. -/
noncomputable def Try.pinned : Pinned := { name := "ytbckobclicogiaa", sum := "0fcc1ddc7b9dda2bbf587a734996c6c86f9af76d5f6a8408747f49d09bf8b9b5", checked := Try.checked }
namespace Rows
def none {H : Type} : Left H := { results := [], args := [] }

/-- 'postelaw16.DeadFrees': WHATEVER THE INPUT: true; the input reads as it did. -/
def deadFreesSpec : ChangeSpec := { name := "deadFrees", fn := fun _ => fun
  | [d1, d2, d3] => { results := [.lit (.bool true)], args := [d1, d2, d3] }
  | _ => none }
def deadFreesRow : OpenClaim := { program := "ytbckobclicogiaa", sum := "0fcc1ddc7b9dda2bbf587a734996c6c86f9af76d5f6a8408747f49d09bf8b9b5", func := "poste/postelaw16.DeadFrees", spec := "deadFrees", unfollowed := true, recurses := true, apart := false }
def DeadFreesSaid : Prop := deadFreesRow.holds Try.pinned (OpenSpec.ofChange deadFreesSpec)

/-- ITS FALSE NEIGHBOUR: 'it returns false'. Refute it at one input. -/
def deadFreesWrong : ChangeSpec := { name := "deadFrees", fn := fun _ => fun
  | [d1, d2, d3] => { results := [.lit (.bool false)], args := [d1, d2, d3] }
  | _ => none }
def DeadFreesWrongFalsely : Prop := deadFreesRow.holds Try.pinned (OpenSpec.ofChange deadFreesWrong)

/-- 'postelaw16.DeadLimit': WHATEVER THE INPUT: true; the input reads as it did. -/
def deadLimitSpec : ChangeSpec := { name := "deadLimit", fn := fun _ => fun
  | [d1, d2] => { results := [.lit (.bool true)], args := [d1, d2] }
  | _ => none }
def deadLimitRow : OpenClaim := { program := "ytbckobclicogiaa", sum := "0fcc1ddc7b9dda2bbf587a734996c6c86f9af76d5f6a8408747f49d09bf8b9b5", func := "poste/postelaw16.DeadLimit", spec := "deadLimit", unfollowed := true, recurses := true, apart := false }
def DeadLimitSaid : Prop := deadLimitRow.holds Try.pinned (OpenSpec.ofChange deadLimitSpec)

/-- ITS FALSE NEIGHBOUR: 'it returns false'. Refute it at one input. -/
def deadLimitWrong : ChangeSpec := { name := "deadLimit", fn := fun _ => fun
  | [d1, d2] => { results := [.lit (.bool false)], args := [d1, d2] }
  | _ => none }
def DeadLimitWrongFalsely : Prop := deadLimitRow.holds Try.pinned (OpenSpec.ofChange deadLimitWrong)

/-- 'postelaw16.DeadOthers': WHATEVER THE INPUT: true; the input reads as it did. -/
def deadOthersSpec : ChangeSpec := { name := "deadOthers", fn := fun _ => fun
  | [d1, d2, d3] => { results := [.lit (.bool true)], args := [d1, d2, d3] }
  | _ => none }
def deadOthersRow : OpenClaim := { program := "ytbckobclicogiaa", sum := "0fcc1ddc7b9dda2bbf587a734996c6c86f9af76d5f6a8408747f49d09bf8b9b5", func := "poste/postelaw16.DeadOthers", spec := "deadOthers", unfollowed := true, recurses := true, apart := false }
def DeadOthersSaid : Prop := deadOthersRow.holds Try.pinned (OpenSpec.ofChange deadOthersSpec)

/-- ITS FALSE NEIGHBOUR: 'it returns false'. Refute it at one input. -/
def deadOthersWrong : ChangeSpec := { name := "deadOthers", fn := fun _ => fun
  | [d1, d2, d3] => { results := [.lit (.bool false)], args := [d1, d2, d3] }
  | _ => none }
def DeadOthersWrongFalsely : Prop := deadOthersRow.holds Try.pinned (OpenSpec.ofChange deadOthersWrong)

/-- 'postelaw24.SessionChecks': WHATEVER THE INPUT: true; the input reads as it did. -/
def sessionChecksSpec : ChangeSpec := { name := "sessionChecks", fn := fun _ => fun
  | [d] => { results := [.lit (.bool true)], args := [d] }
  | _ => none }
def sessionChecksRow : OpenClaim := { program := "ytbckobclicogiaa", sum := "0fcc1ddc7b9dda2bbf587a734996c6c86f9af76d5f6a8408747f49d09bf8b9b5", func := "poste/postelaw24.SessionChecks", spec := "sessionChecks", apart := false }
def SessionChecksSaid : Prop := sessionChecksRow.holds Try.pinned (OpenSpec.ofChange sessionChecksSpec)

/-- ITS FALSE NEIGHBOUR: 'it returns false'. Refute it at one input. -/
def sessionChecksWrong : ChangeSpec := { name := "sessionChecks", fn := fun _ => fun
  | [d] => { results := [.lit (.bool false)], args := [d] }
  | _ => none }
def SessionChecksWrongFalsely : Prop := sessionChecksRow.holds Try.pinned (OpenSpec.ofChange sessionChecksWrong)

/-- 'postelaw24.SessionAbove': WHATEVER THE INPUT: true; the input reads as it did. -/
def sessionAboveSpec : ChangeSpec := { name := "sessionAbove", fn := fun _ => fun
  | [d] => { results := [.lit (.bool true)], args := [d] }
  | _ => none }
def sessionAboveRow : OpenClaim := { program := "ytbckobclicogiaa", sum := "0fcc1ddc7b9dda2bbf587a734996c6c86f9af76d5f6a8408747f49d09bf8b9b5", func := "poste/postelaw24.SessionAbove", spec := "sessionAbove", apart := false }
def SessionAboveSaid : Prop := sessionAboveRow.holds Try.pinned (OpenSpec.ofChange sessionAboveSpec)

/-- ITS FALSE NEIGHBOUR: 'it returns false'. Refute it at one input. -/
def sessionAboveWrong : ChangeSpec := { name := "sessionAbove", fn := fun _ => fun
  | [d] => { results := [.lit (.bool false)], args := [d] }
  | _ => none }
def SessionAboveWrongFalsely : Prop := sessionAboveRow.holds Try.pinned (OpenSpec.ofChange sessionAboveWrong)

/-- 'postelaw24.SessionLimits': WHATEVER THE INPUT: true; the input reads as it did. -/
def sessionLimitsSpec : ChangeSpec := { name := "sessionLimits", fn := fun _ => fun
  | [d1, d2] => { results := [.lit (.bool true)], args := [d1, d2] }
  | _ => none }
def sessionLimitsRow : OpenClaim := { program := "ytbckobclicogiaa", sum := "0fcc1ddc7b9dda2bbf587a734996c6c86f9af76d5f6a8408747f49d09bf8b9b5", func := "poste/postelaw24.SessionLimits", spec := "sessionLimits", apart := false }
def SessionLimitsSaid : Prop := sessionLimitsRow.holds Try.pinned (OpenSpec.ofChange sessionLimitsSpec)

/-- ITS FALSE NEIGHBOUR: 'it returns false'. Refute it at one input. -/
def sessionLimitsWrong : ChangeSpec := { name := "sessionLimits", fn := fun _ => fun
  | [d1, d2] => { results := [.lit (.bool false)], args := [d1, d2] }
  | _ => none }
def SessionLimitsWrongFalsely : Prop := sessionLimitsRow.holds Try.pinned (OpenSpec.ofChange sessionLimitsWrong)

/-- 'postelaw24.SessionFields': WHATEVER THE INPUT: true; the input reads as it did. -/
def sessionFieldsSpec : ChangeSpec := { name := "sessionFields", fn := fun _ => fun
  | [d1, d2] => { results := [.lit (.bool true)], args := [d1, d2] }
  | _ => none }
def sessionFieldsRow : OpenClaim := { program := "ytbckobclicogiaa", sum := "0fcc1ddc7b9dda2bbf587a734996c6c86f9af76d5f6a8408747f49d09bf8b9b5", func := "poste/postelaw24.SessionFields", spec := "sessionFields", apart := false }
def SessionFieldsSaid : Prop := sessionFieldsRow.holds Try.pinned (OpenSpec.ofChange sessionFieldsSpec)

/-- ITS FALSE NEIGHBOUR: 'it returns false'. Refute it at one input. -/
def sessionFieldsWrong : ChangeSpec := { name := "sessionFields", fn := fun _ => fun
  | [d1, d2] => { results := [.lit (.bool false)], args := [d1, d2] }
  | _ => none }
def SessionFieldsWrongFalsely : Prop := sessionFieldsRow.holds Try.pinned (OpenSpec.ofChange sessionFieldsWrong)

/-- 'postelaw15.QueueClaims': WHATEVER THE INPUT: true; the input reads as it did. -/
def queueClaimsSpec : ChangeSpec := { name := "queueClaims", fn := fun _ => fun
  | [d1, d2, d3] => { results := [.lit (.bool true)], args := [d1, d2, d3] }
  | _ => none }
def queueClaimsRow : OpenClaim := { program := "ytbckobclicogiaa", sum := "0fcc1ddc7b9dda2bbf587a734996c6c86f9af76d5f6a8408747f49d09bf8b9b5", func := "poste/postelaw15.QueueClaims", spec := "queueClaims", inPlace := ["slices.overlaps[poste/api.Msg]"], unfollowed := true, recurses := true, apart := false }
def QueueClaimsSaid : Prop := queueClaimsRow.holds Try.pinned (OpenSpec.ofChange queueClaimsSpec)

/-- ITS FALSE NEIGHBOUR: 'it returns false'. Refute it at one input. -/
def queueClaimsWrong : ChangeSpec := { name := "queueClaims", fn := fun _ => fun
  | [d1, d2, d3] => { results := [.lit (.bool false)], args := [d1, d2, d3] }
  | _ => none }
def QueueClaimsWrongFalsely : Prop := queueClaimsRow.holds Try.pinned (OpenSpec.ofChange queueClaimsWrong)

/-- 'postelaw15.QueueOrder': WHATEVER THE INPUT: true; the input reads as it did. -/
def queueOrderSpec : ChangeSpec := { name := "queueOrder", fn := fun _ => fun
  | [d1, d2] => { results := [.lit (.bool true)], args := [d1, d2] }
  | _ => none }
def queueOrderRow : OpenClaim := { program := "ytbckobclicogiaa", sum := "0fcc1ddc7b9dda2bbf587a734996c6c86f9af76d5f6a8408747f49d09bf8b9b5", func := "poste/postelaw15.QueueOrder", spec := "queueOrder", inPlace := ["slices.overlaps[poste/api.Msg]"], unfollowed := true, recurses := true, apart := false }
def QueueOrderSaid : Prop := queueOrderRow.holds Try.pinned (OpenSpec.ofChange queueOrderSpec)

/-- ITS FALSE NEIGHBOUR: 'it returns false'. Refute it at one input. -/
def queueOrderWrong : ChangeSpec := { name := "queueOrder", fn := fun _ => fun
  | [d1, d2] => { results := [.lit (.bool false)], args := [d1, d2] }
  | _ => none }
def QueueOrderWrongFalsely : Prop := queueOrderRow.holds Try.pinned (OpenSpec.ofChange queueOrderWrong)

/- THE SECOND FORM. 'bulk': how many values and letters a reading holds, each counted each time it is reached (what is shared counts as often as it is met; a slice's spare places count too). A statement '..UptoSaid' is the law's where the arguments, and the package variables that the reading takes, are together of bulk at most 1048576: NARROWER than '..Said'. Prove '..Said' where nothing that the law and all that it calls make is longer than what came in: it says more and counts as full. Else prove '..UptoSaid'. A law counts once. -/
mutual
def uptoBulk {H : Type} : DataW H → Nat
  | .lit (.string bytes) => bytes.length + 1
  | .lit _ => 1
  | .nil => 1
  | .ptr d => uptoBulk d + 1
  | .slice elems spare => uptoBulkAll elems + uptoBulkAll spare + 1
  | .agg parts => uptoBulkAll parts + 1
  | .iface _ d => uptoBulk d + 1
  | .map entries => uptoBulkEntries entries + 1
  | .held _ => 1
def uptoBulkAll {H : Type} : List (DataW H) → Nat
  | [] => 0
  | d :: r => uptoBulk d + uptoBulkAll r
def uptoBulkEntries {H : Type} : List (Lit × DataW H) → Nat
  | [] => 0
  | x :: r => uptoBulkEntry x + uptoBulkEntries r
def uptoBulkEntry {H : Type} : Lit × DataW H → Nat
  | (.string bytes, d) => bytes.length + uptoBulk d + 1
  | (_, d) => uptoBulk d + 1
 end
def uptoSmall : (H : Type) → List (DataW H) → Bool := fun _ ds => decide (uptoBulkAll ds ≤ 1048576)
def OpenSpec.upto (s : _root_.Go.ChangeSpec) : _root_.Go.OpenSpec := { _root_.Go.OpenSpec.ofChange s with cond := some uptoSmall }

/-- 'postelaw16.DeadFrees', WHERE WHAT IT READS IS OF BULK AT MOST 1048576: true; the input reads as it did. -/
def deadFreesUptoRow : OpenClaim := { program := "ytbckobclicogiaa", sum := "0fcc1ddc7b9dda2bbf587a734996c6c86f9af76d5f6a8408747f49d09bf8b9b5", func := "poste/postelaw16.DeadFrees", spec := "deadFrees", unfollowed := true, recurses := true, apart := false, narrowed := true }
def DeadFreesUptoSaid : Prop := deadFreesUptoRow.holds Try.pinned (OpenSpec.upto deadFreesSpec)

/-- 'postelaw16.DeadLimit', WHERE WHAT IT READS IS OF BULK AT MOST 1048576: true; the input reads as it did. -/
def deadLimitUptoRow : OpenClaim := { program := "ytbckobclicogiaa", sum := "0fcc1ddc7b9dda2bbf587a734996c6c86f9af76d5f6a8408747f49d09bf8b9b5", func := "poste/postelaw16.DeadLimit", spec := "deadLimit", unfollowed := true, recurses := true, apart := false, narrowed := true }
def DeadLimitUptoSaid : Prop := deadLimitUptoRow.holds Try.pinned (OpenSpec.upto deadLimitSpec)

/-- 'postelaw16.DeadOthers', WHERE WHAT IT READS IS OF BULK AT MOST 1048576: true; the input reads as it did. -/
def deadOthersUptoRow : OpenClaim := { program := "ytbckobclicogiaa", sum := "0fcc1ddc7b9dda2bbf587a734996c6c86f9af76d5f6a8408747f49d09bf8b9b5", func := "poste/postelaw16.DeadOthers", spec := "deadOthers", unfollowed := true, recurses := true, apart := false, narrowed := true }
def DeadOthersUptoSaid : Prop := deadOthersUptoRow.holds Try.pinned (OpenSpec.upto deadOthersSpec)

/-- 'postelaw24.SessionChecks', WHERE WHAT IT READS IS OF BULK AT MOST 1048576: true; the input reads as it did. -/
def sessionChecksUptoRow : OpenClaim := { program := "ytbckobclicogiaa", sum := "0fcc1ddc7b9dda2bbf587a734996c6c86f9af76d5f6a8408747f49d09bf8b9b5", func := "poste/postelaw24.SessionChecks", spec := "sessionChecks", apart := false, narrowed := true }
def SessionChecksUptoSaid : Prop := sessionChecksUptoRow.holds Try.pinned (OpenSpec.upto sessionChecksSpec)

/-- 'postelaw24.SessionAbove', WHERE WHAT IT READS IS OF BULK AT MOST 1048576: true; the input reads as it did. -/
def sessionAboveUptoRow : OpenClaim := { program := "ytbckobclicogiaa", sum := "0fcc1ddc7b9dda2bbf587a734996c6c86f9af76d5f6a8408747f49d09bf8b9b5", func := "poste/postelaw24.SessionAbove", spec := "sessionAbove", apart := false, narrowed := true }
def SessionAboveUptoSaid : Prop := sessionAboveUptoRow.holds Try.pinned (OpenSpec.upto sessionAboveSpec)

/-- 'postelaw24.SessionLimits', WHERE WHAT IT READS IS OF BULK AT MOST 1048576: true; the input reads as it did. -/
def sessionLimitsUptoRow : OpenClaim := { program := "ytbckobclicogiaa", sum := "0fcc1ddc7b9dda2bbf587a734996c6c86f9af76d5f6a8408747f49d09bf8b9b5", func := "poste/postelaw24.SessionLimits", spec := "sessionLimits", apart := false, narrowed := true }
def SessionLimitsUptoSaid : Prop := sessionLimitsUptoRow.holds Try.pinned (OpenSpec.upto sessionLimitsSpec)

/-- 'postelaw24.SessionFields', WHERE WHAT IT READS IS OF BULK AT MOST 1048576: true; the input reads as it did. -/
def sessionFieldsUptoRow : OpenClaim := { program := "ytbckobclicogiaa", sum := "0fcc1ddc7b9dda2bbf587a734996c6c86f9af76d5f6a8408747f49d09bf8b9b5", func := "poste/postelaw24.SessionFields", spec := "sessionFields", apart := false, narrowed := true }
def SessionFieldsUptoSaid : Prop := sessionFieldsUptoRow.holds Try.pinned (OpenSpec.upto sessionFieldsSpec)

/-- 'postelaw15.QueueClaims', WHERE WHAT IT READS IS OF BULK AT MOST 1048576: true; the input reads as it did. -/
def queueClaimsUptoRow : OpenClaim := { program := "ytbckobclicogiaa", sum := "0fcc1ddc7b9dda2bbf587a734996c6c86f9af76d5f6a8408747f49d09bf8b9b5", func := "poste/postelaw15.QueueClaims", spec := "queueClaims", inPlace := ["slices.overlaps[poste/api.Msg]"], unfollowed := true, recurses := true, apart := false, narrowed := true }
def QueueClaimsUptoSaid : Prop := queueClaimsUptoRow.holds Try.pinned (OpenSpec.upto queueClaimsSpec)

/-- 'postelaw15.QueueOrder', WHERE WHAT IT READS IS OF BULK AT MOST 1048576: true; the input reads as it did. -/
def queueOrderUptoRow : OpenClaim := { program := "ytbckobclicogiaa", sum := "0fcc1ddc7b9dda2bbf587a734996c6c86f9af76d5f6a8408747f49d09bf8b9b5", func := "poste/postelaw15.QueueOrder", spec := "queueOrder", inPlace := ["slices.overlaps[poste/api.Msg]"], unfollowed := true, recurses := true, apart := false, narrowed := true }
def QueueOrderUptoSaid : Prop := queueOrderUptoRow.holds Try.pinned (OpenSpec.upto queueOrderSpec)

end Rows
end Go.Proofs.Ytbckobclicogiaa
