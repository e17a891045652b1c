/-
  No cell of these rows narrows 'for every input' (looked for: loops, veiled, ifaces, maps, wideKeys, modest, calm, conditions, laid).
  DERIVED. THE GIVEN ROWS OF THIS SEAT. 10 by the template 'for every input the law returns true; each argument reads behind the call as it read before'; 0 by the template 'total and deterministic' (their statements: YtegomkgfmaclkaaTotals.lean).
  GIVEN WITH THE SEED: the statements are not yours to turn. If you find one false, say at which input.
  Laid BY PROGRAM, IN A SANDBOX (cutbox-rows.mjs): the forced cells as the released guide's own fill.sh prints them over the translation 4447f0fa2a40cdbf… (all of the seat's roots in one cut). By AI agents, Wed Nov 11 2026. No macro, syntax, notation, axiom, sorry.
-/
import Derived.Test.YtegomkgfmaclkaaChecked
import GoSem.Claim
import GoSem.ClaimJoined
import GoSem.ClaimMapViews
import Derived.JoinedTies
import Derived.KernelRfl
namespace Go.Proofs.Ytegomkgfmaclkaa
/- THE CELL 'sum', in the pinned program and in every row, IS THE sha256 OF THE DUMP (.gsa) THAT YtegomkgfmaclkaaProg.lean LOADS. Nothing in Lean hashes anything: it is a label: what it is worth is what the hold of that sum in a sandbox is worth. -/
noncomputable def Try.pinned : Pinned := { name := "ytegomkgfmaclkaa", sum := "4447f0fa2a40cdbfac0149d3665dce9d6562d31b0863e3caffa9ad22600b9036", checked := Try.checked }
namespace Rows
def none {H : Type} : Left H := { results := [], args := [] }

/-- 'postelaw17.RowsSplit': WHATEVER THE INPUT: true; the input reads as it did. -/
def rowsSplitSpec : ChangeSpec := { name := "rowsSplit", fn := fun _ => fun
  | [d1, d2] => { results := [.lit (.bool true)], args := [d1, d2] }
  | _ => none }
def rowsSplitRow : OpenClaim := { program := "ytegomkgfmaclkaa", sum := "4447f0fa2a40cdbfac0149d3665dce9d6562d31b0863e3caffa9ad22600b9036", func := "poste/postelaw17.RowsSplit", spec := "rowsSplit", plainKeys := false, apart := false }
def RowsSplitSaid : Prop := rowsSplitRow.holds Try.pinned (OpenSpec.ofChange rowsSplitSpec)

/-- ITS FALSE NEIGHBOUR: 'it returns false'. Refute it at one input. -/
def rowsSplitWrong : ChangeSpec := { name := "rowsSplit", fn := fun _ => fun
  | [d1, d2] => { results := [.lit (.bool false)], args := [d1, d2] }
  | _ => none }
def RowsSplitWrongFalsely : Prop := rowsSplitRow.holds Try.pinned (OpenSpec.ofChange rowsSplitWrong)

/-- 'postelaw7.NodeHalf': WHATEVER THE INPUT: true; the input reads as it did. -/
def nodeHalfSpec : ChangeSpec := { name := "nodeHalf", fn := fun _ => fun
  | [d] => { results := [.lit (.bool true)], args := [d] }
  | _ => none }
def nodeHalfRow : OpenClaim := { program := "ytegomkgfmaclkaa", sum := "4447f0fa2a40cdbfac0149d3665dce9d6562d31b0863e3caffa9ad22600b9036", func := "poste/postelaw7.NodeHalf", spec := "nodeHalf", inPlace := ["slices.overlaps[poste/api.Row]"], plainKeys := false, apart := false }
def NodeHalfSaid : Prop := nodeHalfRow.holds Try.pinned (OpenSpec.ofChange nodeHalfSpec)

/-- ITS FALSE NEIGHBOUR: 'it returns false'. Refute it at one input. -/
def nodeHalfWrong : ChangeSpec := { name := "nodeHalf", fn := fun _ => fun
  | [d] => { results := [.lit (.bool false)], args := [d] }
  | _ => none }
def NodeHalfWrongFalsely : Prop := nodeHalfRow.holds Try.pinned (OpenSpec.ofChange nodeHalfWrong)

/-- 'postelaw7.NodeBack': WHATEVER THE INPUT: true; the input reads as it did. -/
def nodeBackSpec : ChangeSpec := { name := "nodeBack", fn := fun _ => fun
  | [d1, d2] => { results := [.lit (.bool true)], args := [d1, d2] }
  | _ => none }
def nodeBackRow : OpenClaim := { program := "ytegomkgfmaclkaa", sum := "4447f0fa2a40cdbfac0149d3665dce9d6562d31b0863e3caffa9ad22600b9036", func := "poste/postelaw7.NodeBack", spec := "nodeBack", inPlace := ["slices.overlaps[poste/api.Row]"], plainKeys := false, apart := false }
def NodeBackSaid : Prop := nodeBackRow.holds Try.pinned (OpenSpec.ofChange nodeBackSpec)

/-- ITS FALSE NEIGHBOUR: 'it returns false'. Refute it at one input. -/
def nodeBackWrong : ChangeSpec := { name := "nodeBack", fn := fun _ => fun
  | [d1, d2] => { results := [.lit (.bool false)], args := [d1, d2] }
  | _ => none }
def NodeBackWrongFalsely : Prop := nodeBackRow.holds Try.pinned (OpenSpec.ofChange nodeBackWrong)

/-- 'postelaw23.TxnOwn': WHATEVER THE INPUT: true; the input reads as it did. -/
def txnOwnSpec : ChangeSpec := { name := "txnOwn", fn := fun _ => fun
  | [d1, d2, d3] => { results := [.lit (.bool true)], args := [d1, d2, d3] }
  | _ => none }
def txnOwnRow : OpenClaim := { program := "ytegomkgfmaclkaa", sum := "4447f0fa2a40cdbfac0149d3665dce9d6562d31b0863e3caffa9ad22600b9036", func := "poste/postelaw23.TxnOwn", spec := "txnOwn", inPlace := ["slices.overlaps[poste/api.Row]"], unfollowed := true, recurses := true, plainKeys := false, apart := false }
def TxnOwnSaid : Prop := txnOwnRow.holds Try.pinned (OpenSpec.ofChange txnOwnSpec)

/-- ITS FALSE NEIGHBOUR: 'it returns false'. Refute it at one input. -/
def txnOwnWrong : ChangeSpec := { name := "txnOwn", fn := fun _ => fun
  | [d1, d2, d3] => { results := [.lit (.bool false)], args := [d1, d2, d3] }
  | _ => none }
def TxnOwnWrongFalsely : Prop := txnOwnRow.holds Try.pinned (OpenSpec.ofChange txnOwnWrong)

/-- 'postelaw23.TxnSettles': WHATEVER THE INPUT: true; the input reads as it did. -/
def txnSettlesSpec : ChangeSpec := { name := "txnSettles", fn := fun _ => fun
  | [d1, d2] => { results := [.lit (.bool true)], args := [d1, d2] }
  | _ => none }
def txnSettlesRow : OpenClaim := { program := "ytegomkgfmaclkaa", sum := "4447f0fa2a40cdbfac0149d3665dce9d6562d31b0863e3caffa9ad22600b9036", func := "poste/postelaw23.TxnSettles", spec := "txnSettles", inPlace := ["slices.overlaps[poste/api.Row]"], unfollowed := true, recurses := true, plainKeys := false, apart := false }
def TxnSettlesSaid : Prop := txnSettlesRow.holds Try.pinned (OpenSpec.ofChange txnSettlesSpec)

/-- ITS FALSE NEIGHBOUR: 'it returns false'. Refute it at one input. -/
def txnSettlesWrong : ChangeSpec := { name := "txnSettles", fn := fun _ => fun
  | [d1, d2] => { results := [.lit (.bool false)], args := [d1, d2] }
  | _ => none }
def TxnSettlesWrongFalsely : Prop := txnSettlesRow.holds Try.pinned (OpenSpec.ofChange txnSettlesWrong)

/-- 'postelaw23.TxnSees': WHATEVER THE INPUT: true; the input reads as it did. -/
def txnSeesSpec : ChangeSpec := { name := "txnSees", fn := fun _ => fun
  | [d1, d2, d3, d4, d5, d6, d7] => { results := [.lit (.bool true)], args := [d1, d2, d3, d4, d5, d6, d7] }
  | _ => none }
def txnSeesRow : OpenClaim := { program := "ytegomkgfmaclkaa", sum := "4447f0fa2a40cdbfac0149d3665dce9d6562d31b0863e3caffa9ad22600b9036", func := "poste/postelaw23.TxnSees", spec := "txnSees", inPlace := ["slices.overlaps[poste/api.Row]"], unfollowed := true, recurses := true, plainKeys := false, apart := false }
def TxnSeesSaid : Prop := txnSeesRow.holds Try.pinned (OpenSpec.ofChange txnSeesSpec)

/-- ITS FALSE NEIGHBOUR: 'it returns false'. Refute it at one input. -/
def txnSeesWrong : ChangeSpec := { name := "txnSees", fn := fun _ => fun
  | [d1, d2, d3, d4, d5, d6, d7] => { results := [.lit (.bool false)], args := [d1, d2, d3, d4, d5, d6, d7] }
  | _ => none }
def TxnSeesWrongFalsely : Prop := txnSeesRow.holds Try.pinned (OpenSpec.ofChange txnSeesWrong)

/-- 'postelaw9.CursorAll': WHATEVER THE INPUT: true; the input reads as it did. -/
def cursorAllSpec : ChangeSpec := { name := "cursorAll", fn := fun _ => fun
  | [d1, d2] => { results := [.lit (.bool true)], args := [d1, d2] }
  | _ => none }
def cursorAllRow : OpenClaim := { program := "ytegomkgfmaclkaa", sum := "4447f0fa2a40cdbfac0149d3665dce9d6562d31b0863e3caffa9ad22600b9036", func := "poste/postelaw9.CursorAll", spec := "cursorAll", inPlace := ["slices.overlaps[poste/api.Row]"], recurses := true, plainKeys := false, apart := false }
def CursorAllSaid : Prop := cursorAllRow.holds Try.pinned (OpenSpec.ofChange cursorAllSpec)

/-- ITS FALSE NEIGHBOUR: 'it returns false'. Refute it at one input. -/
def cursorAllWrong : ChangeSpec := { name := "cursorAll", fn := fun _ => fun
  | [d1, d2] => { results := [.lit (.bool false)], args := [d1, d2] }
  | _ => none }
def CursorAllWrongFalsely : Prop := cursorAllRow.holds Try.pinned (OpenSpec.ofChange cursorAllWrong)

/-- 'postelaw8.TreeOrder': WHATEVER THE INPUT: true; the input reads as it did. -/
def treeOrderSpec : ChangeSpec := { name := "treeOrder", fn := fun _ => fun
  | [d1, d2] => { results := [.lit (.bool true)], args := [d1, d2] }
  | _ => none }
def treeOrderRow : OpenClaim := { program := "ytegomkgfmaclkaa", sum := "4447f0fa2a40cdbfac0149d3665dce9d6562d31b0863e3caffa9ad22600b9036", func := "poste/postelaw8.TreeOrder", spec := "treeOrder", inPlace := ["slices.overlaps[poste/api.Row]"], recurses := true, plainKeys := false, apart := false }
def TreeOrderSaid : Prop := treeOrderRow.holds Try.pinned (OpenSpec.ofChange treeOrderSpec)

/-- ITS FALSE NEIGHBOUR: 'it returns false'. Refute it at one input. -/
def treeOrderWrong : ChangeSpec := { name := "treeOrder", fn := fun _ => fun
  | [d1, d2] => { results := [.lit (.bool false)], args := [d1, d2] }
  | _ => none }
def TreeOrderWrongFalsely : Prop := treeOrderRow.holds Try.pinned (OpenSpec.ofChange treeOrderWrong)

/-- 'postelaw8.TreePlays': WHATEVER THE INPUT: true; the input reads as it did. -/
def treePlaysSpec : ChangeSpec := { name := "treePlays", fn := fun _ => fun
  | [d1, d2] => { results := [.lit (.bool true)], args := [d1, d2] }
  | _ => none }
def treePlaysRow : OpenClaim := { program := "ytegomkgfmaclkaa", sum := "4447f0fa2a40cdbfac0149d3665dce9d6562d31b0863e3caffa9ad22600b9036", func := "poste/postelaw8.TreePlays", spec := "treePlays", inPlace := ["slices.overlaps[poste/api.Row]"], recurses := true, plainKeys := false, apart := false }
def TreePlaysSaid : Prop := treePlaysRow.holds Try.pinned (OpenSpec.ofChange treePlaysSpec)

/-- ITS FALSE NEIGHBOUR: 'it returns false'. Refute it at one input. -/
def treePlaysWrong : ChangeSpec := { name := "treePlays", fn := fun _ => fun
  | [d1, d2] => { results := [.lit (.bool false)], args := [d1, d2] }
  | _ => none }
def TreePlaysWrongFalsely : Prop := treePlaysRow.holds Try.pinned (OpenSpec.ofChange treePlaysWrong)

/-- 'postelaw8.TreeLong': WHATEVER THE INPUT: true; the input reads as it did. -/
def treeLongSpec : ChangeSpec := { name := "treeLong", fn := fun _ => fun
  | [d1, d2, d3] => { results := [.lit (.bool true)], args := [d1, d2, d3] }
  | _ => none }
def treeLongRow : OpenClaim := { program := "ytegomkgfmaclkaa", sum := "4447f0fa2a40cdbfac0149d3665dce9d6562d31b0863e3caffa9ad22600b9036", func := "poste/postelaw8.TreeLong", spec := "treeLong", inPlace := ["slices.overlaps[poste/api.Row]"], recurses := true, plainKeys := false, apart := false }
def TreeLongSaid : Prop := treeLongRow.holds Try.pinned (OpenSpec.ofChange treeLongSpec)

/-- ITS FALSE NEIGHBOUR: 'it returns false'. Refute it at one input. -/
def treeLongWrong : ChangeSpec := { name := "treeLong", fn := fun _ => fun
  | [d1, d2, d3] => { results := [.lit (.bool false)], args := [d1, d2, d3] }
  | _ => none }
def TreeLongWrongFalsely : Prop := treeLongRow.holds Try.pinned (OpenSpec.ofChange treeLongWrong)

/- THE SECOND FORM. 'bulk': how many values and letters a reading holds, each counted each time it is reached (what is shared counts as often as it is met; a slice's spare places count too). A statement '..UptoSaid' is the law's where the arguments, and the package variables that the reading takes, are together of bulk at most 1048576: NARROWER than '..Said'. Prove '..Said' where nothing that the law and all that it calls make is longer than what came in: it says more and counts as full. Else prove '..UptoSaid'. A law counts once. -/
mutual
def uptoBulk {H : Type} : DataW H → Nat
  | .lit (.string bytes) => bytes.length + 1
  | .lit _ => 1
  | .nil => 1
  | .ptr d => uptoBulk d + 1
  | .slice elems spare => uptoBulkAll elems + uptoBulkAll spare + 1
  | .agg parts => uptoBulkAll parts + 1
  | .iface _ d => uptoBulk d + 1
  | .map entries => uptoBulkEntries entries + 1
  | .held _ => 1
def uptoBulkAll {H : Type} : List (DataW H) → Nat
  | [] => 0
  | d :: r => uptoBulk d + uptoBulkAll r
def uptoBulkEntries {H : Type} : List (Lit × DataW H) → Nat
  | [] => 0
  | x :: r => uptoBulkEntry x + uptoBulkEntries r
def uptoBulkEntry {H : Type} : Lit × DataW H → Nat
  | (.string bytes, d) => bytes.length + uptoBulk d + 1
  | (_, d) => uptoBulk d + 1
 end
def uptoSmall : (H : Type) → List (DataW H) → Bool := fun _ ds => decide (uptoBulkAll ds ≤ 1048576)
def OpenSpec.upto (s : _root_.Go.ChangeSpec) : _root_.Go.OpenSpec := { _root_.Go.OpenSpec.ofChange s with cond := some uptoSmall }

/-- 'postelaw17.RowsSplit', WHERE WHAT IT READS IS OF BULK AT MOST 1048576: true; the input reads as it did. -/
def rowsSplitUptoRow : OpenClaim := { program := "ytegomkgfmaclkaa", sum := "4447f0fa2a40cdbfac0149d3665dce9d6562d31b0863e3caffa9ad22600b9036", func := "poste/postelaw17.RowsSplit", spec := "rowsSplit", plainKeys := false, apart := false, narrowed := true }
def RowsSplitUptoSaid : Prop := rowsSplitUptoRow.holds Try.pinned (OpenSpec.upto rowsSplitSpec)

/-- 'postelaw7.NodeHalf', WHERE WHAT IT READS IS OF BULK AT MOST 1048576: true; the input reads as it did. -/
def nodeHalfUptoRow : OpenClaim := { program := "ytegomkgfmaclkaa", sum := "4447f0fa2a40cdbfac0149d3665dce9d6562d31b0863e3caffa9ad22600b9036", func := "poste/postelaw7.NodeHalf", spec := "nodeHalf", inPlace := ["slices.overlaps[poste/api.Row]"], plainKeys := false, apart := false, narrowed := true }
def NodeHalfUptoSaid : Prop := nodeHalfUptoRow.holds Try.pinned (OpenSpec.upto nodeHalfSpec)

/-- 'postelaw7.NodeBack', WHERE WHAT IT READS IS OF BULK AT MOST 1048576: true; the input reads as it did. -/
def nodeBackUptoRow : OpenClaim := { program := "ytegomkgfmaclkaa", sum := "4447f0fa2a40cdbfac0149d3665dce9d6562d31b0863e3caffa9ad22600b9036", func := "poste/postelaw7.NodeBack", spec := "nodeBack", inPlace := ["slices.overlaps[poste/api.Row]"], plainKeys := false, apart := false, narrowed := true }
def NodeBackUptoSaid : Prop := nodeBackUptoRow.holds Try.pinned (OpenSpec.upto nodeBackSpec)

/-- 'postelaw23.TxnOwn', WHERE WHAT IT READS IS OF BULK AT MOST 1048576: true; the input reads as it did. -/
def txnOwnUptoRow : OpenClaim := { program := "ytegomkgfmaclkaa", sum := "4447f0fa2a40cdbfac0149d3665dce9d6562d31b0863e3caffa9ad22600b9036", func := "poste/postelaw23.TxnOwn", spec := "txnOwn", inPlace := ["slices.overlaps[poste/api.Row]"], unfollowed := true, recurses := true, plainKeys := false, apart := false, narrowed := true }
def TxnOwnUptoSaid : Prop := txnOwnUptoRow.holds Try.pinned (OpenSpec.upto txnOwnSpec)

/-- 'postelaw23.TxnSettles', WHERE WHAT IT READS IS OF BULK AT MOST 1048576: true; the input reads as it did. -/
def txnSettlesUptoRow : OpenClaim := { program := "ytegomkgfmaclkaa", sum := "4447f0fa2a40cdbfac0149d3665dce9d6562d31b0863e3caffa9ad22600b9036", func := "poste/postelaw23.TxnSettles", spec := "txnSettles", inPlace := ["slices.overlaps[poste/api.Row]"], unfollowed := true, recurses := true, plainKeys := false, apart := false, narrowed := true }
def TxnSettlesUptoSaid : Prop := txnSettlesUptoRow.holds Try.pinned (OpenSpec.upto txnSettlesSpec)

/-- 'postelaw23.TxnSees', WHERE WHAT IT READS IS OF BULK AT MOST 1048576: true; the input reads as it did. -/
def txnSeesUptoRow : OpenClaim := { program := "ytegomkgfmaclkaa", sum := "4447f0fa2a40cdbfac0149d3665dce9d6562d31b0863e3caffa9ad22600b9036", func := "poste/postelaw23.TxnSees", spec := "txnSees", inPlace := ["slices.overlaps[poste/api.Row]"], unfollowed := true, recurses := true, plainKeys := false, apart := false, narrowed := true }
def TxnSeesUptoSaid : Prop := txnSeesUptoRow.holds Try.pinned (OpenSpec.upto txnSeesSpec)

/-- 'postelaw9.CursorAll', WHERE WHAT IT READS IS OF BULK AT MOST 1048576: true; the input reads as it did. -/
def cursorAllUptoRow : OpenClaim := { program := "ytegomkgfmaclkaa", sum := "4447f0fa2a40cdbfac0149d3665dce9d6562d31b0863e3caffa9ad22600b9036", func := "poste/postelaw9.CursorAll", spec := "cursorAll", inPlace := ["slices.overlaps[poste/api.Row]"], recurses := true, plainKeys := false, apart := false, narrowed := true }
def CursorAllUptoSaid : Prop := cursorAllUptoRow.holds Try.pinned (OpenSpec.upto cursorAllSpec)

/-- 'postelaw8.TreeOrder', WHERE WHAT IT READS IS OF BULK AT MOST 1048576: true; the input reads as it did. -/
def treeOrderUptoRow : OpenClaim := { program := "ytegomkgfmaclkaa", sum := "4447f0fa2a40cdbfac0149d3665dce9d6562d31b0863e3caffa9ad22600b9036", func := "poste/postelaw8.TreeOrder", spec := "treeOrder", inPlace := ["slices.overlaps[poste/api.Row]"], recurses := true, plainKeys := false, apart := false, narrowed := true }
def TreeOrderUptoSaid : Prop := treeOrderUptoRow.holds Try.pinned (OpenSpec.upto treeOrderSpec)

/-- 'postelaw8.TreePlays', WHERE WHAT IT READS IS OF BULK AT MOST 1048576: true; the input reads as it did. -/
def treePlaysUptoRow : OpenClaim := { program := "ytegomkgfmaclkaa", sum := "4447f0fa2a40cdbfac0149d3665dce9d6562d31b0863e3caffa9ad22600b9036", func := "poste/postelaw8.TreePlays", spec := "treePlays", inPlace := ["slices.overlaps[poste/api.Row]"], recurses := true, plainKeys := false, apart := false, narrowed := true }
def TreePlaysUptoSaid : Prop := treePlaysUptoRow.holds Try.pinned (OpenSpec.upto treePlaysSpec)

/-- 'postelaw8.TreeLong', WHERE WHAT IT READS IS OF BULK AT MOST 1048576: true; the input reads as it did. -/
def treeLongUptoRow : OpenClaim := { program := "ytegomkgfmaclkaa", sum := "4447f0fa2a40cdbfac0149d3665dce9d6562d31b0863e3caffa9ad22600b9036", func := "poste/postelaw8.TreeLong", spec := "treeLong", inPlace := ["slices.overlaps[poste/api.Row]"], recurses := true, plainKeys := false, apart := false, narrowed := true }
def TreeLongUptoSaid : Prop := treeLongUptoRow.holds Try.pinned (OpenSpec.upto treeLongSpec)

end Rows
end Go.Proofs.Ytegomkgfmaclkaa
