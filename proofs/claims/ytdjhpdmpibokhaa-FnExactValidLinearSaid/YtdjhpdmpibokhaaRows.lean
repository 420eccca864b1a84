/-
  No cell of these rows narrows 'for every input' (looked for: loops, veiled, ifaces, maps, wideKeys, modest, calm, conditions, laid).
  DERIVED. THE GIVEN ROWS OF THIS SEAT. 9 by the template 'for every input the law returns true; each argument reads behind the call as it read before'; 0 by the template 'total and deterministic' (their statements: YtdjhpdmpibokhaaTotals.lean).
  GIVEN WITH THE SEED: the statements are not yours to turn. If you find one false, say at which input.
  Laid BY PROGRAM, IN A SANDBOX (cutbox-rows.mjs): the forced cells as the released guide's own fill.sh prints them over the translation f3d494b61dc513a8… (all of the seat's roots in one cut). By AI agents, Wed Nov 11 2026. No macro, syntax, notation, axiom, sorry.
-/
import Derived.Test.YtdjhpdmpibokhaaChecked
import GoSem.Claim
import GoSem.ClaimJoined
import GoSem.ClaimMapViews
import Derived.JoinedTies
import Derived.KernelRfl
namespace Go.Proofs.Ytdjhpdmpibokhaa
/- THE CELL 'sum', in the pinned program and in every row, IS THE sha256 OF THE DUMP (.gsa) THAT YtdjhpdmpibokhaaProg.lean LOADS. Nothing in Lean hashes anything: it is a label: what it is worth is what the hold of that sum in a sandbox is worth. -/
noncomputable def Try.pinned : Pinned := { name := "ytdjhpdmpibokhaa", sum := "f3d494b61dc513a84fa624a877960bc4f7f3951451e188431b21cc0f0e0ac8a1", checked := Try.checked }
namespace Rows
def none {H : Type} : Left H := { results := [], args := [] }

/-- 'laws.FnExactValidTerms': WHATEVER THE INPUT: true; the input reads as it did. -/
def fnExactValidTermsSpec : ChangeSpec := { name := "fnExactValidTerms", fn := fun _ => fun
  | [d1, d2, d3] => { results := [.lit (.bool true)], args := [d1, d2, d3] }
  | _ => none }
def fnExactValidTermsRow : OpenClaim := { program := "ytdjhpdmpibokhaa", sum := "f3d494b61dc513a84fa624a877960bc4f7f3951451e188431b21cc0f0e0ac8a1", func := "loop.example/g01075/laws.FnExactValidTerms", spec := "fnExactValidTerms", apart := false }
def FnExactValidTermsSaid : Prop := fnExactValidTermsRow.holds Try.pinned (OpenSpec.ofChange fnExactValidTermsSpec)

/-- ITS FALSE NEIGHBOUR: 'it returns false'. Refute it at one input. -/
def fnExactValidTermsWrong : ChangeSpec := { name := "fnExactValidTerms", fn := fun _ => fun
  | [d1, d2, d3] => { results := [.lit (.bool false)], args := [d1, d2, d3] }
  | _ => none }
def FnExactValidTermsWrongFalsely : Prop := fnExactValidTermsRow.holds Try.pinned (OpenSpec.ofChange fnExactValidTermsWrong)

/-- 'laws.FnExactPostfixOf': WHATEVER THE INPUT: true; the input reads as it did. -/
def fnExactPostfixOfSpec : ChangeSpec := { name := "fnExactPostfixOf", fn := fun _ => fun
  | [d] => { results := [.lit (.bool true)], args := [d] }
  | _ => none }
def fnExactPostfixOfRow : OpenClaim := { program := "ytdjhpdmpibokhaa", sum := "f3d494b61dc513a84fa624a877960bc4f7f3951451e188431b21cc0f0e0ac8a1", func := "loop.example/g01075/laws.FnExactPostfixOf", spec := "fnExactPostfixOf", recurses := true, apart := false }
def FnExactPostfixOfSaid : Prop := fnExactPostfixOfRow.holds Try.pinned (OpenSpec.ofChange fnExactPostfixOfSpec)

/-- ITS FALSE NEIGHBOUR: 'it returns false'. Refute it at one input. -/
def fnExactPostfixOfWrong : ChangeSpec := { name := "fnExactPostfixOf", fn := fun _ => fun
  | [d] => { results := [.lit (.bool false)], args := [d] }
  | _ => none }
def FnExactPostfixOfWrongFalsely : Prop := fnExactPostfixOfRow.holds Try.pinned (OpenSpec.ofChange fnExactPostfixOfWrong)

/-- 'laws.FnExactSubstitute': WHATEVER THE INPUT: true; the input reads as it did. -/
def fnExactSubstituteSpec : ChangeSpec := { name := "fnExactSubstitute", fn := fun _ => fun
  | [d1, d2, d3] => { results := [.lit (.bool true)], args := [d1, d2, d3] }
  | _ => none }
def fnExactSubstituteRow : OpenClaim := { program := "ytdjhpdmpibokhaa", sum := "f3d494b61dc513a84fa624a877960bc4f7f3951451e188431b21cc0f0e0ac8a1", func := "loop.example/g01075/laws.FnExactSubstitute", spec := "fnExactSubstitute", unfollowed := true, recurses := true, apart := false }
def FnExactSubstituteSaid : Prop := fnExactSubstituteRow.holds Try.pinned (OpenSpec.ofChange fnExactSubstituteSpec)

/-- ITS FALSE NEIGHBOUR: 'it returns false'. Refute it at one input. -/
def fnExactSubstituteWrong : ChangeSpec := { name := "fnExactSubstitute", fn := fun _ => fun
  | [d1, d2, d3] => { results := [.lit (.bool false)], args := [d1, d2, d3] }
  | _ => none }
def FnExactSubstituteWrongFalsely : Prop := fnExactSubstituteRow.holds Try.pinned (OpenSpec.ofChange fnExactSubstituteWrong)

/-- 'laws.FnExactShiftVariables': WHATEVER THE INPUT: true; the input reads as it did. -/
def fnExactShiftVariablesSpec : ChangeSpec := { name := "fnExactShiftVariables", fn := fun _ => fun
  | [d1, d2, d3] => { results := [.lit (.bool true)], args := [d1, d2, d3] }
  | _ => none }
def fnExactShiftVariablesRow : OpenClaim := { program := "ytdjhpdmpibokhaa", sum := "f3d494b61dc513a84fa624a877960bc4f7f3951451e188431b21cc0f0e0ac8a1", func := "loop.example/g01075/laws.FnExactShiftVariables", spec := "fnExactShiftVariables", unfollowed := true, recurses := true, apart := false }
def FnExactShiftVariablesSaid : Prop := fnExactShiftVariablesRow.holds Try.pinned (OpenSpec.ofChange fnExactShiftVariablesSpec)

/-- ITS FALSE NEIGHBOUR: 'it returns false'. Refute it at one input. -/
def fnExactShiftVariablesWrong : ChangeSpec := { name := "fnExactShiftVariables", fn := fun _ => fun
  | [d1, d2, d3] => { results := [.lit (.bool false)], args := [d1, d2, d3] }
  | _ => none }
def FnExactShiftVariablesWrongFalsely : Prop := fnExactShiftVariablesRow.holds Try.pinned (OpenSpec.ofChange fnExactShiftVariablesWrong)

/-- 'laws.FnExactConjunction': WHATEVER THE INPUT: true; the input reads as it did. -/
def fnExactConjunctionSpec : ChangeSpec := { name := "fnExactConjunction", fn := fun _ => fun
  | [d] => { results := [.lit (.bool true)], args := [d] }
  | _ => none }
def fnExactConjunctionRow : OpenClaim := { program := "ytdjhpdmpibokhaa", sum := "f3d494b61dc513a84fa624a877960bc4f7f3951451e188431b21cc0f0e0ac8a1", func := "loop.example/g01075/laws.FnExactConjunction", spec := "fnExactConjunction", unfollowed := true, recurses := true, apart := false }
def FnExactConjunctionSaid : Prop := fnExactConjunctionRow.holds Try.pinned (OpenSpec.ofChange fnExactConjunctionSpec)

/-- ITS FALSE NEIGHBOUR: 'it returns false'. Refute it at one input. -/
def fnExactConjunctionWrong : ChangeSpec := { name := "fnExactConjunction", fn := fun _ => fun
  | [d] => { results := [.lit (.bool false)], args := [d] }
  | _ => none }
def FnExactConjunctionWrongFalsely : Prop := fnExactConjunctionRow.holds Try.pinned (OpenSpec.ofChange fnExactConjunctionWrong)

/-- 'laws.FnExactEvaluate': WHATEVER THE INPUT: true; the input reads as it did. -/
def fnExactEvaluateSpec : ChangeSpec := { name := "fnExactEvaluate", fn := fun _ => fun
  | [d1, d2] => { results := [.lit (.bool true)], args := [d1, d2] }
  | _ => none }
def fnExactEvaluateRow : OpenClaim := { program := "ytdjhpdmpibokhaa", sum := "f3d494b61dc513a84fa624a877960bc4f7f3951451e188431b21cc0f0e0ac8a1", func := "loop.example/g01075/laws.FnExactEvaluate", spec := "fnExactEvaluate", unfollowed := true, recurses := true, apart := false }
def FnExactEvaluateSaid : Prop := fnExactEvaluateRow.holds Try.pinned (OpenSpec.ofChange fnExactEvaluateSpec)

/-- ITS FALSE NEIGHBOUR: 'it returns false'. Refute it at one input. -/
def fnExactEvaluateWrong : ChangeSpec := { name := "fnExactEvaluate", fn := fun _ => fun
  | [d1, d2] => { results := [.lit (.bool false)], args := [d1, d2] }
  | _ => none }
def FnExactEvaluateWrongFalsely : Prop := fnExactEvaluateRow.holds Try.pinned (OpenSpec.ofChange fnExactEvaluateWrong)

/-- 'laws.FnExactDifferingValues': WHATEVER THE INPUT: true; the input reads as it did. -/
def fnExactDifferingValuesSpec : ChangeSpec := { name := "fnExactDifferingValues", fn := fun _ => fun
  | [d1, d2, d3] => { results := [.lit (.bool true)], args := [d1, d2, d3] }
  | _ => none }
def fnExactDifferingValuesRow : OpenClaim := { program := "ytdjhpdmpibokhaa", sum := "f3d494b61dc513a84fa624a877960bc4f7f3951451e188431b21cc0f0e0ac8a1", func := "loop.example/g01075/laws.FnExactDifferingValues", spec := "fnExactDifferingValues", unfollowed := true, recurses := true, apart := false }
def FnExactDifferingValuesSaid : Prop := fnExactDifferingValuesRow.holds Try.pinned (OpenSpec.ofChange fnExactDifferingValuesSpec)

/-- ITS FALSE NEIGHBOUR: 'it returns false'. Refute it at one input. -/
def fnExactDifferingValuesWrong : ChangeSpec := { name := "fnExactDifferingValues", fn := fun _ => fun
  | [d1, d2, d3] => { results := [.lit (.bool false)], args := [d1, d2, d3] }
  | _ => none }
def FnExactDifferingValuesWrongFalsely : Prop := fnExactDifferingValuesRow.holds Try.pinned (OpenSpec.ofChange fnExactDifferingValuesWrong)

/-- 'laws.FnExactSolutionsOf': WHATEVER THE INPUT: true; the input reads as it did. -/
def fnExactSolutionsOfSpec : ChangeSpec := { name := "fnExactSolutionsOf", fn := fun _ => fun
  | [d1, d2] => { results := [.lit (.bool true)], args := [d1, d2] }
  | _ => none }
def fnExactSolutionsOfRow : OpenClaim := { program := "ytdjhpdmpibokhaa", sum := "f3d494b61dc513a84fa624a877960bc4f7f3951451e188431b21cc0f0e0ac8a1", func := "loop.example/g01075/laws.FnExactSolutionsOf", spec := "fnExactSolutionsOf", unfollowed := true, recurses := true, apart := false }
def FnExactSolutionsOfSaid : Prop := fnExactSolutionsOfRow.holds Try.pinned (OpenSpec.ofChange fnExactSolutionsOfSpec)

/-- ITS FALSE NEIGHBOUR: 'it returns false'. Refute it at one input. -/
def fnExactSolutionsOfWrong : ChangeSpec := { name := "fnExactSolutionsOf", fn := fun _ => fun
  | [d1, d2] => { results := [.lit (.bool false)], args := [d1, d2] }
  | _ => none }
def FnExactSolutionsOfWrongFalsely : Prop := fnExactSolutionsOfRow.holds Try.pinned (OpenSpec.ofChange fnExactSolutionsOfWrong)

/-- 'laws.FnExactValidLinear': WHATEVER THE INPUT: true; the input reads as it did. -/
def fnExactValidLinearSpec : ChangeSpec := { name := "fnExactValidLinear", fn := fun _ => fun
  | [d] => { results := [.lit (.bool true)], args := [d] }
  | _ => none }
def fnExactValidLinearRow : OpenClaim := { program := "ytdjhpdmpibokhaa", sum := "f3d494b61dc513a84fa624a877960bc4f7f3951451e188431b21cc0f0e0ac8a1", func := "loop.example/g01075/laws.FnExactValidLinear", spec := "fnExactValidLinear", unfollowed := true, recurses := true, apart := false }
def FnExactValidLinearSaid : Prop := fnExactValidLinearRow.holds Try.pinned (OpenSpec.ofChange fnExactValidLinearSpec)

/-- ITS FALSE NEIGHBOUR: 'it returns false'. Refute it at one input. -/
def fnExactValidLinearWrong : ChangeSpec := { name := "fnExactValidLinear", fn := fun _ => fun
  | [d] => { results := [.lit (.bool false)], args := [d] }
  | _ => none }
def FnExactValidLinearWrongFalsely : Prop := fnExactValidLinearRow.holds Try.pinned (OpenSpec.ofChange fnExactValidLinearWrong)

/- THE SECOND FORM. 'bulk': how many values and letters a reading holds, each counted each time it is reached (what is shared counts as often as it is met; a slice's spare places count too). A statement '..UptoSaid' is the law's where the arguments, and the package variables that the reading takes, are together of bulk at most 1048576: NARROWER than '..Said'. Prove '..Said' where nothing that the law and all that it calls make is longer than what came in: it says more and counts as full. Else prove '..UptoSaid'. A law counts once. -/
mutual
def uptoBulk {H : Type} : DataW H → Nat
  | .lit (.string bytes) => bytes.length + 1
  | .lit _ => 1
  | .nil => 1
  | .ptr d => uptoBulk d + 1
  | .slice elems spare => uptoBulkAll elems + uptoBulkAll spare + 1
  | .agg parts => uptoBulkAll parts + 1
  | .iface _ d => uptoBulk d + 1
  | .map entries => uptoBulkEntries entries + 1
  | .held _ => 1
def uptoBulkAll {H : Type} : List (DataW H) → Nat
  | [] => 0
  | d :: r => uptoBulk d + uptoBulkAll r
def uptoBulkEntries {H : Type} : List (Lit × DataW H) → Nat
  | [] => 0
  | x :: r => uptoBulkEntry x + uptoBulkEntries r
def uptoBulkEntry {H : Type} : Lit × DataW H → Nat
  | (.string bytes, d) => bytes.length + uptoBulk d + 1
  | (_, d) => uptoBulk d + 1
 end
def uptoSmall : (H : Type) → List (DataW H) → Bool := fun _ ds => decide (uptoBulkAll ds ≤ 1048576)
def OpenSpec.upto (s : _root_.Go.ChangeSpec) : _root_.Go.OpenSpec := { _root_.Go.OpenSpec.ofChange s with cond := some uptoSmall }

/-- 'laws.FnExactValidTerms', WHERE WHAT IT READS IS OF BULK AT MOST 1048576: true; the input reads as it did. -/
def fnExactValidTermsUptoRow : OpenClaim := { program := "ytdjhpdmpibokhaa", sum := "f3d494b61dc513a84fa624a877960bc4f7f3951451e188431b21cc0f0e0ac8a1", func := "loop.example/g01075/laws.FnExactValidTerms", spec := "fnExactValidTerms", apart := false, narrowed := true }
def FnExactValidTermsUptoSaid : Prop := fnExactValidTermsUptoRow.holds Try.pinned (OpenSpec.upto fnExactValidTermsSpec)

/-- 'laws.FnExactPostfixOf', WHERE WHAT IT READS IS OF BULK AT MOST 1048576: true; the input reads as it did. -/
def fnExactPostfixOfUptoRow : OpenClaim := { program := "ytdjhpdmpibokhaa", sum := "f3d494b61dc513a84fa624a877960bc4f7f3951451e188431b21cc0f0e0ac8a1", func := "loop.example/g01075/laws.FnExactPostfixOf", spec := "fnExactPostfixOf", recurses := true, apart := false, narrowed := true }
def FnExactPostfixOfUptoSaid : Prop := fnExactPostfixOfUptoRow.holds Try.pinned (OpenSpec.upto fnExactPostfixOfSpec)

/-- 'laws.FnExactSubstitute', WHERE WHAT IT READS IS OF BULK AT MOST 1048576: true; the input reads as it did. -/
def fnExactSubstituteUptoRow : OpenClaim := { program := "ytdjhpdmpibokhaa", sum := "f3d494b61dc513a84fa624a877960bc4f7f3951451e188431b21cc0f0e0ac8a1", func := "loop.example/g01075/laws.FnExactSubstitute", spec := "fnExactSubstitute", unfollowed := true, recurses := true, apart := false, narrowed := true }
def FnExactSubstituteUptoSaid : Prop := fnExactSubstituteUptoRow.holds Try.pinned (OpenSpec.upto fnExactSubstituteSpec)

/-- 'laws.FnExactShiftVariables', WHERE WHAT IT READS IS OF BULK AT MOST 1048576: true; the input reads as it did. -/
def fnExactShiftVariablesUptoRow : OpenClaim := { program := "ytdjhpdmpibokhaa", sum := "f3d494b61dc513a84fa624a877960bc4f7f3951451e188431b21cc0f0e0ac8a1", func := "loop.example/g01075/laws.FnExactShiftVariables", spec := "fnExactShiftVariables", unfollowed := true, recurses := true, apart := false, narrowed := true }
def FnExactShiftVariablesUptoSaid : Prop := fnExactShiftVariablesUptoRow.holds Try.pinned (OpenSpec.upto fnExactShiftVariablesSpec)

/-- 'laws.FnExactConjunction', WHERE WHAT IT READS IS OF BULK AT MOST 1048576: true; the input reads as it did. -/
def fnExactConjunctionUptoRow : OpenClaim := { program := "ytdjhpdmpibokhaa", sum := "f3d494b61dc513a84fa624a877960bc4f7f3951451e188431b21cc0f0e0ac8a1", func := "loop.example/g01075/laws.FnExactConjunction", spec := "fnExactConjunction", unfollowed := true, recurses := true, apart := false, narrowed := true }
def FnExactConjunctionUptoSaid : Prop := fnExactConjunctionUptoRow.holds Try.pinned (OpenSpec.upto fnExactConjunctionSpec)

/-- 'laws.FnExactEvaluate', WHERE WHAT IT READS IS OF BULK AT MOST 1048576: true; the input reads as it did. -/
def fnExactEvaluateUptoRow : OpenClaim := { program := "ytdjhpdmpibokhaa", sum := "f3d494b61dc513a84fa624a877960bc4f7f3951451e188431b21cc0f0e0ac8a1", func := "loop.example/g01075/laws.FnExactEvaluate", spec := "fnExactEvaluate", unfollowed := true, recurses := true, apart := false, narrowed := true }
def FnExactEvaluateUptoSaid : Prop := fnExactEvaluateUptoRow.holds Try.pinned (OpenSpec.upto fnExactEvaluateSpec)

/-- 'laws.FnExactDifferingValues', WHERE WHAT IT READS IS OF BULK AT MOST 1048576: true; the input reads as it did. -/
def fnExactDifferingValuesUptoRow : OpenClaim := { program := "ytdjhpdmpibokhaa", sum := "f3d494b61dc513a84fa624a877960bc4f7f3951451e188431b21cc0f0e0ac8a1", func := "loop.example/g01075/laws.FnExactDifferingValues", spec := "fnExactDifferingValues", unfollowed := true, recurses := true, apart := false, narrowed := true }
def FnExactDifferingValuesUptoSaid : Prop := fnExactDifferingValuesUptoRow.holds Try.pinned (OpenSpec.upto fnExactDifferingValuesSpec)

/-- 'laws.FnExactSolutionsOf', WHERE WHAT IT READS IS OF BULK AT MOST 1048576: true; the input reads as it did. -/
def fnExactSolutionsOfUptoRow : OpenClaim := { program := "ytdjhpdmpibokhaa", sum := "f3d494b61dc513a84fa624a877960bc4f7f3951451e188431b21cc0f0e0ac8a1", func := "loop.example/g01075/laws.FnExactSolutionsOf", spec := "fnExactSolutionsOf", unfollowed := true, recurses := true, apart := false, narrowed := true }
def FnExactSolutionsOfUptoSaid : Prop := fnExactSolutionsOfUptoRow.holds Try.pinned (OpenSpec.upto fnExactSolutionsOfSpec)

/-- 'laws.FnExactValidLinear', WHERE WHAT IT READS IS OF BULK AT MOST 1048576: true; the input reads as it did. -/
def fnExactValidLinearUptoRow : OpenClaim := { program := "ytdjhpdmpibokhaa", sum := "f3d494b61dc513a84fa624a877960bc4f7f3951451e188431b21cc0f0e0ac8a1", func := "loop.example/g01075/laws.FnExactValidLinear", spec := "fnExactValidLinear", unfollowed := true, recurses := true, apart := false, narrowed := true }
def FnExactValidLinearUptoSaid : Prop := fnExactValidLinearUptoRow.holds Try.pinned (OpenSpec.upto fnExactValidLinearSpec)

end Rows
end Go.Proofs.Ytdjhpdmpibokhaa
