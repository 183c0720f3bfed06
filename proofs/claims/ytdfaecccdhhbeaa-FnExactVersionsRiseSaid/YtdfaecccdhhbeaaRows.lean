/-
  No cell of these rows narrows 'for every input' (looked for: loops, veiled, ifaces, maps, wideKeys, modest, calm, conditions, laid).
  DERIVED. THE GIVEN ROWS OF THIS SEAT. 6 by the template 'for every input the law returns true; each argument reads behind the call as it read before'; 0 by the template 'total and deterministic' (their statements: YtdfaecccdhhbeaaTotals.lean).
  GIVEN WITH THE SEED: the statements are not yours to turn. If you find one false, say at which input.
  Laid BY PROGRAM, IN A SANDBOX (cutbox-rows.mjs): the forced cells as the released guide's own fill.sh prints them over the translation 7d7ff1c0c5d0154a… (all of the seat's roots in one cut). By AI agents, Wed Nov 11 2026. No macro, syntax, notation, axiom, sorry.
-/
import Derived.Test.YtdfaecccdhhbeaaChecked
import GoSem.Claim
import GoSem.ClaimJoined
import GoSem.ClaimMapViews
import Derived.JoinedTies
import Derived.KernelRfl
namespace Go.Proofs.Ytdfaecccdhhbeaa
/- THE CELL 'sum', in the pinned program and in every row, IS THE sha256 OF THE DUMP (.gsa) THAT YtdfaecccdhhbeaaProg.lean LOADS. Nothing in Lean hashes anything: it is a label: what it is worth is what the hold of that sum in a sandbox is worth. -/
noncomputable def Try.pinned : Pinned := { name := "ytdfaecccdhhbeaa", sum := "7d7ff1c0c5d0154aeacf96c9fac8f44a9e812c2d4c0ef8445775b4ae52c76a88", checked := Try.checked }
namespace Rows
def none {H : Type} : Left H := { results := [], args := [] }

/-- 'laws.FnExactEventWord': WHATEVER THE INPUT: true; the input reads as it did. -/
def fnExactEventWordSpec : ChangeSpec := { name := "fnExactEventWord", fn := fun _ => fun
  | [d] => { results := [.lit (.bool true)], args := [d] }
  | _ => none }
def fnExactEventWordRow : OpenClaim := { program := "ytdfaecccdhhbeaa", sum := "7d7ff1c0c5d0154aeacf96c9fac8f44a9e812c2d4c0ef8445775b4ae52c76a88", func := "loop.example/g01402/laws.FnExactEventWord", spec := "fnExactEventWord", apart := false }
def FnExactEventWordSaid : Prop := fnExactEventWordRow.holds Try.pinned (OpenSpec.ofChange fnExactEventWordSpec)

/-- ITS FALSE NEIGHBOUR: 'it returns false'. Refute it at one input. -/
def fnExactEventWordWrong : ChangeSpec := { name := "fnExactEventWord", fn := fun _ => fun
  | [d] => { results := [.lit (.bool false)], args := [d] }
  | _ => none }
def FnExactEventWordWrongFalsely : Prop := fnExactEventWordRow.holds Try.pinned (OpenSpec.ofChange fnExactEventWordWrong)

/-- 'laws.FnExactArrivalOf': WHATEVER THE INPUT: true; the input reads as it did. -/
def fnExactArrivalOfSpec : ChangeSpec := { name := "fnExactArrivalOf", fn := fun _ => fun
  | [d1, d2] => { results := [.lit (.bool true)], args := [d1, d2] }
  | _ => none }
def fnExactArrivalOfRow : OpenClaim := { program := "ytdfaecccdhhbeaa", sum := "7d7ff1c0c5d0154aeacf96c9fac8f44a9e812c2d4c0ef8445775b4ae52c76a88", func := "loop.example/g01402/laws.FnExactArrivalOf", spec := "fnExactArrivalOf", unfollowed := true, recurses := true, apart := false }
def FnExactArrivalOfSaid : Prop := fnExactArrivalOfRow.holds Try.pinned (OpenSpec.ofChange fnExactArrivalOfSpec)

/-- ITS FALSE NEIGHBOUR: 'it returns false'. Refute it at one input. -/
def fnExactArrivalOfWrong : ChangeSpec := { name := "fnExactArrivalOf", fn := fun _ => fun
  | [d1, d2] => { results := [.lit (.bool false)], args := [d1, d2] }
  | _ => none }
def FnExactArrivalOfWrongFalsely : Prop := fnExactArrivalOfRow.holds Try.pinned (OpenSpec.ofChange fnExactArrivalOfWrong)

/-- 'laws.FnExactCountKind': WHATEVER THE INPUT: true; the input reads as it did. -/
def fnExactCountKindSpec : ChangeSpec := { name := "fnExactCountKind", fn := fun _ => fun
  | [d1, d2] => { results := [.lit (.bool true)], args := [d1, d2] }
  | _ => none }
def fnExactCountKindRow : OpenClaim := { program := "ytdfaecccdhhbeaa", sum := "7d7ff1c0c5d0154aeacf96c9fac8f44a9e812c2d4c0ef8445775b4ae52c76a88", func := "loop.example/g01402/laws.FnExactCountKind", spec := "fnExactCountKind", unfollowed := true, recurses := true, apart := false }
def FnExactCountKindSaid : Prop := fnExactCountKindRow.holds Try.pinned (OpenSpec.ofChange fnExactCountKindSpec)

/-- ITS FALSE NEIGHBOUR: 'it returns false'. Refute it at one input. -/
def fnExactCountKindWrong : ChangeSpec := { name := "fnExactCountKind", fn := fun _ => fun
  | [d1, d2] => { results := [.lit (.bool false)], args := [d1, d2] }
  | _ => none }
def FnExactCountKindWrongFalsely : Prop := fnExactCountKindRow.holds Try.pinned (OpenSpec.ofChange fnExactCountKindWrong)

/-- 'laws.FnExactSendsFor': WHATEVER THE INPUT: true; the input reads as it did. -/
def fnExactSendsForSpec : ChangeSpec := { name := "fnExactSendsFor", fn := fun _ => fun
  | [d1, d2] => { results := [.lit (.bool true)], args := [d1, d2] }
  | _ => none }
def fnExactSendsForRow : OpenClaim := { program := "ytdfaecccdhhbeaa", sum := "7d7ff1c0c5d0154aeacf96c9fac8f44a9e812c2d4c0ef8445775b4ae52c76a88", func := "loop.example/g01402/laws.FnExactSendsFor", spec := "fnExactSendsFor", unfollowed := true, recurses := true, apart := false }
def FnExactSendsForSaid : Prop := fnExactSendsForRow.holds Try.pinned (OpenSpec.ofChange fnExactSendsForSpec)

/-- ITS FALSE NEIGHBOUR: 'it returns false'. Refute it at one input. -/
def fnExactSendsForWrong : ChangeSpec := { name := "fnExactSendsFor", fn := fun _ => fun
  | [d1, d2] => { results := [.lit (.bool false)], args := [d1, d2] }
  | _ => none }
def FnExactSendsForWrongFalsely : Prop := fnExactSendsForRow.holds Try.pinned (OpenSpec.ofChange fnExactSendsForWrong)

/-- 'laws.FnExactHowTold': WHATEVER THE INPUT: true; the input reads as it did. -/
def fnExactHowToldSpec : ChangeSpec := { name := "fnExactHowTold", fn := fun _ => fun
  | [d1, d2] => { results := [.lit (.bool true)], args := [d1, d2] }
  | _ => none }
def fnExactHowToldRow : OpenClaim := { program := "ytdfaecccdhhbeaa", sum := "7d7ff1c0c5d0154aeacf96c9fac8f44a9e812c2d4c0ef8445775b4ae52c76a88", func := "loop.example/g01402/laws.FnExactHowTold", spec := "fnExactHowTold", apart := false }
def FnExactHowToldSaid : Prop := fnExactHowToldRow.holds Try.pinned (OpenSpec.ofChange fnExactHowToldSpec)

/-- ITS FALSE NEIGHBOUR: 'it returns false'. Refute it at one input. -/
def fnExactHowToldWrong : ChangeSpec := { name := "fnExactHowTold", fn := fun _ => fun
  | [d1, d2] => { results := [.lit (.bool false)], args := [d1, d2] }
  | _ => none }
def FnExactHowToldWrongFalsely : Prop := fnExactHowToldRow.holds Try.pinned (OpenSpec.ofChange fnExactHowToldWrong)

/-- 'laws.FnExactVersionsRise': WHATEVER THE INPUT: true; the input reads as it did. -/
def fnExactVersionsRiseSpec : ChangeSpec := { name := "fnExactVersionsRise", fn := fun _ => fun
  | [d] => { results := [.lit (.bool true)], args := [d] }
  | _ => none }
def fnExactVersionsRiseRow : OpenClaim := { program := "ytdfaecccdhhbeaa", sum := "7d7ff1c0c5d0154aeacf96c9fac8f44a9e812c2d4c0ef8445775b4ae52c76a88", func := "loop.example/g01402/laws.FnExactVersionsRise", spec := "fnExactVersionsRise", unfollowed := true, recurses := true, apart := false }
def FnExactVersionsRiseSaid : Prop := fnExactVersionsRiseRow.holds Try.pinned (OpenSpec.ofChange fnExactVersionsRiseSpec)

/-- ITS FALSE NEIGHBOUR: 'it returns false'. Refute it at one input. -/
def fnExactVersionsRiseWrong : ChangeSpec := { name := "fnExactVersionsRise", fn := fun _ => fun
  | [d] => { results := [.lit (.bool false)], args := [d] }
  | _ => none }
def FnExactVersionsRiseWrongFalsely : Prop := fnExactVersionsRiseRow.holds Try.pinned (OpenSpec.ofChange fnExactVersionsRiseWrong)

/- THE SECOND FORM. 'bulk': how many values and letters a reading holds, each counted each time it is reached (what is shared counts as often as it is met; a slice's spare places count too). A statement '..UptoSaid' is the law's where the arguments, and the package variables that the reading takes, are together of bulk at most 1048576: NARROWER than '..Said'. Prove '..Said' where nothing that the law and all that it calls make is longer than what came in: it says more and counts as full. Else prove '..UptoSaid'. A law counts once. -/
mutual
def uptoBulk {H : Type} : DataW H → Nat
  | .lit (.string bytes) => bytes.length + 1
  | .lit _ => 1
  | .nil => 1
  | .ptr d => uptoBulk d + 1
  | .slice elems spare => uptoBulkAll elems + uptoBulkAll spare + 1
  | .agg parts => uptoBulkAll parts + 1
  | .iface _ d => uptoBulk d + 1
  | .map entries => uptoBulkEntries entries + 1
  | .held _ => 1
def uptoBulkAll {H : Type} : List (DataW H) → Nat
  | [] => 0
  | d :: r => uptoBulk d + uptoBulkAll r
def uptoBulkEntries {H : Type} : List (Lit × DataW H) → Nat
  | [] => 0
  | x :: r => uptoBulkEntry x + uptoBulkEntries r
def uptoBulkEntry {H : Type} : Lit × DataW H → Nat
  | (.string bytes, d) => bytes.length + uptoBulk d + 1
  | (_, d) => uptoBulk d + 1
 end
def uptoSmall : (H : Type) → List (DataW H) → Bool := fun _ ds => decide (uptoBulkAll ds ≤ 1048576)
def OpenSpec.upto (s : _root_.Go.ChangeSpec) : _root_.Go.OpenSpec := { _root_.Go.OpenSpec.ofChange s with cond := some uptoSmall }

/-- 'laws.FnExactEventWord', WHERE WHAT IT READS IS OF BULK AT MOST 1048576: true; the input reads as it did. -/
def fnExactEventWordUptoRow : OpenClaim := { program := "ytdfaecccdhhbeaa", sum := "7d7ff1c0c5d0154aeacf96c9fac8f44a9e812c2d4c0ef8445775b4ae52c76a88", func := "loop.example/g01402/laws.FnExactEventWord", spec := "fnExactEventWord", apart := false, narrowed := true }
def FnExactEventWordUptoSaid : Prop := fnExactEventWordUptoRow.holds Try.pinned (OpenSpec.upto fnExactEventWordSpec)

/-- 'laws.FnExactArrivalOf', WHERE WHAT IT READS IS OF BULK AT MOST 1048576: true; the input reads as it did. -/
def fnExactArrivalOfUptoRow : OpenClaim := { program := "ytdfaecccdhhbeaa", sum := "7d7ff1c0c5d0154aeacf96c9fac8f44a9e812c2d4c0ef8445775b4ae52c76a88", func := "loop.example/g01402/laws.FnExactArrivalOf", spec := "fnExactArrivalOf", unfollowed := true, recurses := true, apart := false, narrowed := true }
def FnExactArrivalOfUptoSaid : Prop := fnExactArrivalOfUptoRow.holds Try.pinned (OpenSpec.upto fnExactArrivalOfSpec)

/-- 'laws.FnExactCountKind', WHERE WHAT IT READS IS OF BULK AT MOST 1048576: true; the input reads as it did. -/
def fnExactCountKindUptoRow : OpenClaim := { program := "ytdfaecccdhhbeaa", sum := "7d7ff1c0c5d0154aeacf96c9fac8f44a9e812c2d4c0ef8445775b4ae52c76a88", func := "loop.example/g01402/laws.FnExactCountKind", spec := "fnExactCountKind", unfollowed := true, recurses := true, apart := false, narrowed := true }
def FnExactCountKindUptoSaid : Prop := fnExactCountKindUptoRow.holds Try.pinned (OpenSpec.upto fnExactCountKindSpec)

/-- 'laws.FnExactSendsFor', WHERE WHAT IT READS IS OF BULK AT MOST 1048576: true; the input reads as it did. -/
def fnExactSendsForUptoRow : OpenClaim := { program := "ytdfaecccdhhbeaa", sum := "7d7ff1c0c5d0154aeacf96c9fac8f44a9e812c2d4c0ef8445775b4ae52c76a88", func := "loop.example/g01402/laws.FnExactSendsFor", spec := "fnExactSendsFor", unfollowed := true, recurses := true, apart := false, narrowed := true }
def FnExactSendsForUptoSaid : Prop := fnExactSendsForUptoRow.holds Try.pinned (OpenSpec.upto fnExactSendsForSpec)

/-- 'laws.FnExactHowTold', WHERE WHAT IT READS IS OF BULK AT MOST 1048576: true; the input reads as it did. -/
def fnExactHowToldUptoRow : OpenClaim := { program := "ytdfaecccdhhbeaa", sum := "7d7ff1c0c5d0154aeacf96c9fac8f44a9e812c2d4c0ef8445775b4ae52c76a88", func := "loop.example/g01402/laws.FnExactHowTold", spec := "fnExactHowTold", apart := false, narrowed := true }
def FnExactHowToldUptoSaid : Prop := fnExactHowToldUptoRow.holds Try.pinned (OpenSpec.upto fnExactHowToldSpec)

/-- 'laws.FnExactVersionsRise', WHERE WHAT IT READS IS OF BULK AT MOST 1048576: true; the input reads as it did. -/
def fnExactVersionsRiseUptoRow : OpenClaim := { program := "ytdfaecccdhhbeaa", sum := "7d7ff1c0c5d0154aeacf96c9fac8f44a9e812c2d4c0ef8445775b4ae52c76a88", func := "loop.example/g01402/laws.FnExactVersionsRise", spec := "fnExactVersionsRise", unfollowed := true, recurses := true, apart := false, narrowed := true }
def FnExactVersionsRiseUptoSaid : Prop := fnExactVersionsRiseUptoRow.holds Try.pinned (OpenSpec.upto fnExactVersionsRiseSpec)

end Rows
end Go.Proofs.Ytdfaecccdhhbeaa
