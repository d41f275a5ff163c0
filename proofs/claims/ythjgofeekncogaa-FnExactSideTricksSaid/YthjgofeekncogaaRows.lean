/-
  No cell of these rows narrows 'for every input' (looked for: loops, veiled, ifaces, maps, wideKeys, modest, calm, conditions, laid).
  DERIVED. THE GIVEN ROWS OF THIS SEAT. 12 by the template 'for every input the law returns true; each argument reads behind the call as it read before'; 0 by the template 'total and deterministic' (their statements: YthjgofeekncogaaTotals.lean).
  GIVEN WITH THE SEED: the statements are not yours to turn. If you find one false, say at which input.
  Laid BY PROGRAM, IN A SANDBOX (cutbox-rows.mjs): the forced cells as the released guide's own fill.sh prints them over the translation 6840b030d977d485… (all of the seat's roots in one cut). By AI agents, Wed Nov 11 2026. No macro, syntax, notation, axiom, sorry.
-/
import Derived.Test.YthjgofeekncogaaChecked
import GoSem.Claim
import GoSem.ClaimJoined
import GoSem.ClaimMapViews
import Derived.JoinedTies
import Derived.KernelRfl
namespace Go.Proofs.Ythjgofeekncogaa
/- THE CELL 'sum', in the pinned program and in every row, IS THE sha256 OF THE DUMP (.gsa) THAT YthjgofeekncogaaProg.lean LOADS. Nothing in Lean hashes anything: it is a label: what it is worth is what the hold of that sum in a sandbox is worth. -/
noncomputable def Try.pinned : Pinned := { name := "ythjgofeekncogaa", sum := "6840b030d977d485f8ae5ea2c61f138195ca1c155eb58f8bc9496850f14a6353", checked := Try.checked }
namespace Rows
def none {H : Type} : Left H := { results := [], args := [] }

/-- 'laws.FnExactIsTable': WHATEVER THE INPUT: true; the input reads as it did. -/
def fnExactIsTableSpec : ChangeSpec := { name := "fnExactIsTable", fn := fun _ => fun
  | [d1, d2] => { results := [.lit (.bool true)], args := [d1, d2] }
  | _ => none }
def fnExactIsTableRow : OpenClaim := { program := "ythjgofeekncogaa", sum := "6840b030d977d485f8ae5ea2c61f138195ca1c155eb58f8bc9496850f14a6353", func := "loop.example/g00854/laws.FnExactIsTable", spec := "fnExactIsTable", unfollowed := true, recurses := true, apart := false }
def FnExactIsTableSaid : Prop := fnExactIsTableRow.holds Try.pinned (OpenSpec.ofChange fnExactIsTableSpec)

/-- ITS FALSE NEIGHBOUR: 'it returns false'. Refute it at one input. -/
def fnExactIsTableWrong : ChangeSpec := { name := "fnExactIsTable", fn := fun _ => fun
  | [d1, d2] => { results := [.lit (.bool false)], args := [d1, d2] }
  | _ => none }
def FnExactIsTableWrongFalsely : Prop := fnExactIsTableRow.holds Try.pinned (OpenSpec.ofChange fnExactIsTableWrong)

/-- 'laws.FnExactSideTricks': WHATEVER THE INPUT: true; the input reads as it did. -/
def fnExactSideTricksSpec : ChangeSpec := { name := "fnExactSideTricks", fn := fun _ => fun
  | [d1, d2, d3] => { results := [.lit (.bool true)], args := [d1, d2, d3] }
  | _ => none }
def fnExactSideTricksRow : OpenClaim := { program := "ythjgofeekncogaa", sum := "6840b030d977d485f8ae5ea2c61f138195ca1c155eb58f8bc9496850f14a6353", func := "loop.example/g00854/laws.FnExactSideTricks", spec := "fnExactSideTricks", unfollowed := true, recurses := true, apart := false }
def FnExactSideTricksSaid : Prop := fnExactSideTricksRow.holds Try.pinned (OpenSpec.ofChange fnExactSideTricksSpec)

/-- ITS FALSE NEIGHBOUR: 'it returns false'. Refute it at one input. -/
def fnExactSideTricksWrong : ChangeSpec := { name := "fnExactSideTricks", fn := fun _ => fun
  | [d1, d2, d3] => { results := [.lit (.bool false)], args := [d1, d2, d3] }
  | _ => none }
def FnExactSideTricksWrongFalsely : Prop := fnExactSideTricksRow.holds Try.pinned (OpenSpec.ofChange fnExactSideTricksWrong)

/-- 'laws.FnExactIsConstraint': WHATEVER THE INPUT: true; the input reads as it did. -/
def fnExactIsConstraintSpec : ChangeSpec := { name := "fnExactIsConstraint", fn := fun _ => fun
  | [d] => { results := [.lit (.bool true)], args := [d] }
  | _ => none }
def fnExactIsConstraintRow : OpenClaim := { program := "ythjgofeekncogaa", sum := "6840b030d977d485f8ae5ea2c61f138195ca1c155eb58f8bc9496850f14a6353", func := "loop.example/g00854/laws.FnExactIsConstraint", spec := "fnExactIsConstraint", apart := false }
def FnExactIsConstraintSaid : Prop := fnExactIsConstraintRow.holds Try.pinned (OpenSpec.ofChange fnExactIsConstraintSpec)

/-- ITS FALSE NEIGHBOUR: 'it returns false'. Refute it at one input. -/
def fnExactIsConstraintWrong : ChangeSpec := { name := "fnExactIsConstraint", fn := fun _ => fun
  | [d] => { results := [.lit (.bool false)], args := [d] }
  | _ => none }
def FnExactIsConstraintWrongFalsely : Prop := fnExactIsConstraintRow.holds Try.pinned (OpenSpec.ofChange fnExactIsConstraintWrong)

/-- 'laws.FnExactIsNegationForm': WHATEVER THE INPUT: true; the input reads as it did. -/
def fnExactIsNegationFormSpec : ChangeSpec := { name := "fnExactIsNegationForm", fn := fun _ => fun
  | [d] => { results := [.lit (.bool true)], args := [d] }
  | _ => none }
def fnExactIsNegationFormRow : OpenClaim := { program := "ythjgofeekncogaa", sum := "6840b030d977d485f8ae5ea2c61f138195ca1c155eb58f8bc9496850f14a6353", func := "loop.example/g00854/laws.FnExactIsNegationForm", spec := "fnExactIsNegationForm", apart := false }
def FnExactIsNegationFormSaid : Prop := fnExactIsNegationFormRow.holds Try.pinned (OpenSpec.ofChange fnExactIsNegationFormSpec)

/-- ITS FALSE NEIGHBOUR: 'it returns false'. Refute it at one input. -/
def fnExactIsNegationFormWrong : ChangeSpec := { name := "fnExactIsNegationForm", fn := fun _ => fun
  | [d] => { results := [.lit (.bool false)], args := [d] }
  | _ => none }
def FnExactIsNegationFormWrongFalsely : Prop := fnExactIsNegationFormRow.holds Try.pinned (OpenSpec.ofChange fnExactIsNegationFormWrong)

/-- 'laws.FnExactTurnTable': WHATEVER THE INPUT: true; the input reads as it did. -/
def fnExactTurnTableSpec : ChangeSpec := { name := "fnExactTurnTable", fn := fun _ => fun
  | [d1, d2] => { results := [.lit (.bool true)], args := [d1, d2] }
  | _ => none }
def fnExactTurnTableRow : OpenClaim := { program := "ythjgofeekncogaa", sum := "6840b030d977d485f8ae5ea2c61f138195ca1c155eb58f8bc9496850f14a6353", func := "loop.example/g00854/laws.FnExactTurnTable", spec := "fnExactTurnTable", unfollowed := true, recurses := true, apart := false }
def FnExactTurnTableSaid : Prop := fnExactTurnTableRow.holds Try.pinned (OpenSpec.ofChange fnExactTurnTableSpec)

/-- ITS FALSE NEIGHBOUR: 'it returns false'. Refute it at one input. -/
def fnExactTurnTableWrong : ChangeSpec := { name := "fnExactTurnTable", fn := fun _ => fun
  | [d1, d2] => { results := [.lit (.bool false)], args := [d1, d2] }
  | _ => none }
def FnExactTurnTableWrongFalsely : Prop := fnExactTurnTableRow.holds Try.pinned (OpenSpec.ofChange fnExactTurnTableWrong)

/-- 'laws.FnExactStrategyDepth': WHATEVER THE INPUT: true; the input reads as it did. -/
def fnExactStrategyDepthSpec : ChangeSpec := { name := "fnExactStrategyDepth", fn := fun _ => fun
  | [d] => { results := [.lit (.bool true)], args := [d] }
  | _ => none }
def fnExactStrategyDepthRow : OpenClaim := { program := "ythjgofeekncogaa", sum := "6840b030d977d485f8ae5ea2c61f138195ca1c155eb58f8bc9496850f14a6353", func := "loop.example/g00854/laws.FnExactStrategyDepth", spec := "fnExactStrategyDepth", unfollowed := true, recurses := true, apart := false }
def FnExactStrategyDepthSaid : Prop := fnExactStrategyDepthRow.holds Try.pinned (OpenSpec.ofChange fnExactStrategyDepthSpec)

/-- ITS FALSE NEIGHBOUR: 'it returns false'. Refute it at one input. -/
def fnExactStrategyDepthWrong : ChangeSpec := { name := "fnExactStrategyDepth", fn := fun _ => fun
  | [d] => { results := [.lit (.bool false)], args := [d] }
  | _ => none }
def FnExactStrategyDepthWrongFalsely : Prop := fnExactStrategyDepthRow.holds Try.pinned (OpenSpec.ofChange fnExactStrategyDepthWrong)

/-- 'laws.FnExactMakableBids': WHATEVER THE INPUT: true; the input reads as it did. -/
def fnExactMakableBidsSpec : ChangeSpec := { name := "fnExactMakableBids", fn := fun _ => fun
  | [d1, d2] => { results := [.lit (.bool true)], args := [d1, d2] }
  | _ => none }
def fnExactMakableBidsRow : OpenClaim := { program := "ythjgofeekncogaa", sum := "6840b030d977d485f8ae5ea2c61f138195ca1c155eb58f8bc9496850f14a6353", func := "loop.example/g00854/laws.FnExactMakableBids", spec := "fnExactMakableBids", unfollowed := true, recurses := true, apart := false }
def FnExactMakableBidsSaid : Prop := fnExactMakableBidsRow.holds Try.pinned (OpenSpec.ofChange fnExactMakableBidsSpec)

/-- ITS FALSE NEIGHBOUR: 'it returns false'. Refute it at one input. -/
def fnExactMakableBidsWrong : ChangeSpec := { name := "fnExactMakableBids", fn := fun _ => fun
  | [d1, d2] => { results := [.lit (.bool false)], args := [d1, d2] }
  | _ => none }
def FnExactMakableBidsWrongFalsely : Prop := fnExactMakableBidsRow.holds Try.pinned (OpenSpec.ofChange fnExactMakableBidsWrong)

/-- 'laws.FnExactLineCount': WHATEVER THE INPUT: true; the input reads as it did. -/
def fnExactLineCountSpec : ChangeSpec := { name := "fnExactLineCount", fn := fun _ => fun
  | [d] => { results := [.lit (.bool true)], args := [d] }
  | _ => none }
def fnExactLineCountRow : OpenClaim := { program := "ythjgofeekncogaa", sum := "6840b030d977d485f8ae5ea2c61f138195ca1c155eb58f8bc9496850f14a6353", func := "loop.example/g00854/laws.FnExactLineCount", spec := "fnExactLineCount", unfollowed := true, recurses := true, apart := false }
def FnExactLineCountSaid : Prop := fnExactLineCountRow.holds Try.pinned (OpenSpec.ofChange fnExactLineCountSpec)

/-- ITS FALSE NEIGHBOUR: 'it returns false'. Refute it at one input. -/
def fnExactLineCountWrong : ChangeSpec := { name := "fnExactLineCount", fn := fun _ => fun
  | [d] => { results := [.lit (.bool false)], args := [d] }
  | _ => none }
def FnExactLineCountWrongFalsely : Prop := fnExactLineCountRow.holds Try.pinned (OpenSpec.ofChange fnExactLineCountWrong)

/-- 'laws.FnExactNotOf': WHATEVER THE INPUT: true; the input reads as it did. -/
def fnExactNotOfSpec : ChangeSpec := { name := "fnExactNotOf", fn := fun _ => fun
  | [d] => { results := [.lit (.bool true)], args := [d] }
  | _ => none }
def fnExactNotOfRow : OpenClaim := { program := "ythjgofeekncogaa", sum := "6840b030d977d485f8ae5ea2c61f138195ca1c155eb58f8bc9496850f14a6353", func := "loop.example/g00854/laws.FnExactNotOf", spec := "fnExactNotOf", unfollowed := true, recurses := true, apart := false }
def FnExactNotOfSaid : Prop := fnExactNotOfRow.holds Try.pinned (OpenSpec.ofChange fnExactNotOfSpec)

/-- ITS FALSE NEIGHBOUR: 'it returns false'. Refute it at one input. -/
def fnExactNotOfWrong : ChangeSpec := { name := "fnExactNotOf", fn := fun _ => fun
  | [d] => { results := [.lit (.bool false)], args := [d] }
  | _ => none }
def FnExactNotOfWrongFalsely : Prop := fnExactNotOfRow.holds Try.pinned (OpenSpec.ofChange fnExactNotOfWrong)

/-- 'laws.FnExactBothOf': WHATEVER THE INPUT: true; the input reads as it did. -/
def fnExactBothOfSpec : ChangeSpec := { name := "fnExactBothOf", fn := fun _ => fun
  | [d1, d2] => { results := [.lit (.bool true)], args := [d1, d2] }
  | _ => none }
def fnExactBothOfRow : OpenClaim := { program := "ythjgofeekncogaa", sum := "6840b030d977d485f8ae5ea2c61f138195ca1c155eb58f8bc9496850f14a6353", func := "loop.example/g00854/laws.FnExactBothOf", spec := "fnExactBothOf", unfollowed := true, recurses := true, apart := false }
def FnExactBothOfSaid : Prop := fnExactBothOfRow.holds Try.pinned (OpenSpec.ofChange fnExactBothOfSpec)

/-- ITS FALSE NEIGHBOUR: 'it returns false'. Refute it at one input. -/
def fnExactBothOfWrong : ChangeSpec := { name := "fnExactBothOf", fn := fun _ => fun
  | [d1, d2] => { results := [.lit (.bool false)], args := [d1, d2] }
  | _ => none }
def FnExactBothOfWrongFalsely : Prop := fnExactBothOfRow.holds Try.pinned (OpenSpec.ofChange fnExactBothOfWrong)

/-- 'laws.FnExactEitherOf': WHATEVER THE INPUT: true; the input reads as it did. -/
def fnExactEitherOfSpec : ChangeSpec := { name := "fnExactEitherOf", fn := fun _ => fun
  | [d1, d2] => { results := [.lit (.bool true)], args := [d1, d2] }
  | _ => none }
def fnExactEitherOfRow : OpenClaim := { program := "ythjgofeekncogaa", sum := "6840b030d977d485f8ae5ea2c61f138195ca1c155eb58f8bc9496850f14a6353", func := "loop.example/g00854/laws.FnExactEitherOf", spec := "fnExactEitherOf", unfollowed := true, recurses := true, apart := false }
def FnExactEitherOfSaid : Prop := fnExactEitherOfRow.holds Try.pinned (OpenSpec.ofChange fnExactEitherOfSpec)

/-- ITS FALSE NEIGHBOUR: 'it returns false'. Refute it at one input. -/
def fnExactEitherOfWrong : ChangeSpec := { name := "fnExactEitherOf", fn := fun _ => fun
  | [d1, d2] => { results := [.lit (.bool false)], args := [d1, d2] }
  | _ => none }
def FnExactEitherOfWrongFalsely : Prop := fnExactEitherOfRow.holds Try.pinned (OpenSpec.ofChange fnExactEitherOfWrong)

/-- 'laws.FnExactOperandsOf': WHATEVER THE INPUT: true; the input reads as it did. -/
def fnExactOperandsOfSpec : ChangeSpec := { name := "fnExactOperandsOf", fn := fun _ => fun
  | [d] => { results := [.lit (.bool true)], args := [d] }
  | _ => none }
def fnExactOperandsOfRow : OpenClaim := { program := "ythjgofeekncogaa", sum := "6840b030d977d485f8ae5ea2c61f138195ca1c155eb58f8bc9496850f14a6353", func := "loop.example/g00854/laws.FnExactOperandsOf", spec := "fnExactOperandsOf", apart := false }
def FnExactOperandsOfSaid : Prop := fnExactOperandsOfRow.holds Try.pinned (OpenSpec.ofChange fnExactOperandsOfSpec)

/-- ITS FALSE NEIGHBOUR: 'it returns false'. Refute it at one input. -/
def fnExactOperandsOfWrong : ChangeSpec := { name := "fnExactOperandsOf", fn := fun _ => fun
  | [d] => { results := [.lit (.bool false)], args := [d] }
  | _ => none }
def FnExactOperandsOfWrongFalsely : Prop := fnExactOperandsOfRow.holds Try.pinned (OpenSpec.ofChange fnExactOperandsOfWrong)

/- THE SECOND FORM. 'bulk': how many values and letters a reading holds, each counted each time it is reached (what is shared counts as often as it is met; a slice's spare places count too). A statement '..UptoSaid' is the law's where the arguments, and the package variables that the reading takes, are together of bulk at most 1048576: NARROWER than '..Said'. Prove '..Said' where nothing that the law and all that it calls make is longer than what came in: it says more and counts as full. Else prove '..UptoSaid'. A law counts once. -/
mutual
def uptoBulk {H : Type} : DataW H → Nat
  | .lit (.string bytes) => bytes.length + 1
  | .lit _ => 1
  | .nil => 1
  | .ptr d => uptoBulk d + 1
  | .slice elems spare => uptoBulkAll elems + uptoBulkAll spare + 1
  | .agg parts => uptoBulkAll parts + 1
  | .iface _ d => uptoBulk d + 1
  | .map entries => uptoBulkEntries entries + 1
  | .held _ => 1
def uptoBulkAll {H : Type} : List (DataW H) → Nat
  | [] => 0
  | d :: r => uptoBulk d + uptoBulkAll r
def uptoBulkEntries {H : Type} : List (Lit × DataW H) → Nat
  | [] => 0
  | x :: r => uptoBulkEntry x + uptoBulkEntries r
def uptoBulkEntry {H : Type} : Lit × DataW H → Nat
  | (.string bytes, d) => bytes.length + uptoBulk d + 1
  | (_, d) => uptoBulk d + 1
 end
def uptoSmall : (H : Type) → List (DataW H) → Bool := fun _ ds => decide (uptoBulkAll ds ≤ 1048576)
def OpenSpec.upto (s : _root_.Go.ChangeSpec) : _root_.Go.OpenSpec := { _root_.Go.OpenSpec.ofChange s with cond := some uptoSmall }

/-- 'laws.FnExactIsTable', WHERE WHAT IT READS IS OF BULK AT MOST 1048576: true; the input reads as it did. -/
def fnExactIsTableUptoRow : OpenClaim := { program := "ythjgofeekncogaa", sum := "6840b030d977d485f8ae5ea2c61f138195ca1c155eb58f8bc9496850f14a6353", func := "loop.example/g00854/laws.FnExactIsTable", spec := "fnExactIsTable", unfollowed := true, recurses := true, apart := false, narrowed := true }
def FnExactIsTableUptoSaid : Prop := fnExactIsTableUptoRow.holds Try.pinned (OpenSpec.upto fnExactIsTableSpec)

/-- 'laws.FnExactSideTricks', WHERE WHAT IT READS IS OF BULK AT MOST 1048576: true; the input reads as it did. -/
def fnExactSideTricksUptoRow : OpenClaim := { program := "ythjgofeekncogaa", sum := "6840b030d977d485f8ae5ea2c61f138195ca1c155eb58f8bc9496850f14a6353", func := "loop.example/g00854/laws.FnExactSideTricks", spec := "fnExactSideTricks", unfollowed := true, recurses := true, apart := false, narrowed := true }
def FnExactSideTricksUptoSaid : Prop := fnExactSideTricksUptoRow.holds Try.pinned (OpenSpec.upto fnExactSideTricksSpec)

/-- 'laws.FnExactIsConstraint', WHERE WHAT IT READS IS OF BULK AT MOST 1048576: true; the input reads as it did. -/
def fnExactIsConstraintUptoRow : OpenClaim := { program := "ythjgofeekncogaa", sum := "6840b030d977d485f8ae5ea2c61f138195ca1c155eb58f8bc9496850f14a6353", func := "loop.example/g00854/laws.FnExactIsConstraint", spec := "fnExactIsConstraint", apart := false, narrowed := true }
def FnExactIsConstraintUptoSaid : Prop := fnExactIsConstraintUptoRow.holds Try.pinned (OpenSpec.upto fnExactIsConstraintSpec)

/-- 'laws.FnExactIsNegationForm', WHERE WHAT IT READS IS OF BULK AT MOST 1048576: true; the input reads as it did. -/
def fnExactIsNegationFormUptoRow : OpenClaim := { program := "ythjgofeekncogaa", sum := "6840b030d977d485f8ae5ea2c61f138195ca1c155eb58f8bc9496850f14a6353", func := "loop.example/g00854/laws.FnExactIsNegationForm", spec := "fnExactIsNegationForm", apart := false, narrowed := true }
def FnExactIsNegationFormUptoSaid : Prop := fnExactIsNegationFormUptoRow.holds Try.pinned (OpenSpec.upto fnExactIsNegationFormSpec)

/-- 'laws.FnExactTurnTable', WHERE WHAT IT READS IS OF BULK AT MOST 1048576: true; the input reads as it did. -/
def fnExactTurnTableUptoRow : OpenClaim := { program := "ythjgofeekncogaa", sum := "6840b030d977d485f8ae5ea2c61f138195ca1c155eb58f8bc9496850f14a6353", func := "loop.example/g00854/laws.FnExactTurnTable", spec := "fnExactTurnTable", unfollowed := true, recurses := true, apart := false, narrowed := true }
def FnExactTurnTableUptoSaid : Prop := fnExactTurnTableUptoRow.holds Try.pinned (OpenSpec.upto fnExactTurnTableSpec)

/-- 'laws.FnExactStrategyDepth', WHERE WHAT IT READS IS OF BULK AT MOST 1048576: true; the input reads as it did. -/
def fnExactStrategyDepthUptoRow : OpenClaim := { program := "ythjgofeekncogaa", sum := "6840b030d977d485f8ae5ea2c61f138195ca1c155eb58f8bc9496850f14a6353", func := "loop.example/g00854/laws.FnExactStrategyDepth", spec := "fnExactStrategyDepth", unfollowed := true, recurses := true, apart := false, narrowed := true }
def FnExactStrategyDepthUptoSaid : Prop := fnExactStrategyDepthUptoRow.holds Try.pinned (OpenSpec.upto fnExactStrategyDepthSpec)

/-- 'laws.FnExactMakableBids', WHERE WHAT IT READS IS OF BULK AT MOST 1048576: true; the input reads as it did. -/
def fnExactMakableBidsUptoRow : OpenClaim := { program := "ythjgofeekncogaa", sum := "6840b030d977d485f8ae5ea2c61f138195ca1c155eb58f8bc9496850f14a6353", func := "loop.example/g00854/laws.FnExactMakableBids", spec := "fnExactMakableBids", unfollowed := true, recurses := true, apart := false, narrowed := true }
def FnExactMakableBidsUptoSaid : Prop := fnExactMakableBidsUptoRow.holds Try.pinned (OpenSpec.upto fnExactMakableBidsSpec)

/-- 'laws.FnExactLineCount', WHERE WHAT IT READS IS OF BULK AT MOST 1048576: true; the input reads as it did. -/
def fnExactLineCountUptoRow : OpenClaim := { program := "ythjgofeekncogaa", sum := "6840b030d977d485f8ae5ea2c61f138195ca1c155eb58f8bc9496850f14a6353", func := "loop.example/g00854/laws.FnExactLineCount", spec := "fnExactLineCount", unfollowed := true, recurses := true, apart := false, narrowed := true }
def FnExactLineCountUptoSaid : Prop := fnExactLineCountUptoRow.holds Try.pinned (OpenSpec.upto fnExactLineCountSpec)

/-- 'laws.FnExactNotOf', WHERE WHAT IT READS IS OF BULK AT MOST 1048576: true; the input reads as it did. -/
def fnExactNotOfUptoRow : OpenClaim := { program := "ythjgofeekncogaa", sum := "6840b030d977d485f8ae5ea2c61f138195ca1c155eb58f8bc9496850f14a6353", func := "loop.example/g00854/laws.FnExactNotOf", spec := "fnExactNotOf", unfollowed := true, recurses := true, apart := false, narrowed := true }
def FnExactNotOfUptoSaid : Prop := fnExactNotOfUptoRow.holds Try.pinned (OpenSpec.upto fnExactNotOfSpec)

/-- 'laws.FnExactBothOf', WHERE WHAT IT READS IS OF BULK AT MOST 1048576: true; the input reads as it did. -/
def fnExactBothOfUptoRow : OpenClaim := { program := "ythjgofeekncogaa", sum := "6840b030d977d485f8ae5ea2c61f138195ca1c155eb58f8bc9496850f14a6353", func := "loop.example/g00854/laws.FnExactBothOf", spec := "fnExactBothOf", unfollowed := true, recurses := true, apart := false, narrowed := true }
def FnExactBothOfUptoSaid : Prop := fnExactBothOfUptoRow.holds Try.pinned (OpenSpec.upto fnExactBothOfSpec)

/-- 'laws.FnExactEitherOf', WHERE WHAT IT READS IS OF BULK AT MOST 1048576: true; the input reads as it did. -/
def fnExactEitherOfUptoRow : OpenClaim := { program := "ythjgofeekncogaa", sum := "6840b030d977d485f8ae5ea2c61f138195ca1c155eb58f8bc9496850f14a6353", func := "loop.example/g00854/laws.FnExactEitherOf", spec := "fnExactEitherOf", unfollowed := true, recurses := true, apart := false, narrowed := true }
def FnExactEitherOfUptoSaid : Prop := fnExactEitherOfUptoRow.holds Try.pinned (OpenSpec.upto fnExactEitherOfSpec)

/-- 'laws.FnExactOperandsOf', WHERE WHAT IT READS IS OF BULK AT MOST 1048576: true; the input reads as it did. -/
def fnExactOperandsOfUptoRow : OpenClaim := { program := "ythjgofeekncogaa", sum := "6840b030d977d485f8ae5ea2c61f138195ca1c155eb58f8bc9496850f14a6353", func := "loop.example/g00854/laws.FnExactOperandsOf", spec := "fnExactOperandsOf", apart := false, narrowed := true }
def FnExactOperandsOfUptoSaid : Prop := fnExactOperandsOfUptoRow.holds Try.pinned (OpenSpec.upto fnExactOperandsOfSpec)

end Rows
end Go.Proofs.Ythjgofeekncogaa
