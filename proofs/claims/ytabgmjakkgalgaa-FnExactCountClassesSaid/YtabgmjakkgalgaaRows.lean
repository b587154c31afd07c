/-
  No cell of these rows narrows 'for every input' (looked for: loops, veiled, ifaces, maps, wideKeys, modest, calm, conditions, laid).
  DERIVED. THE GIVEN ROWS OF THIS SEAT. 5 by the template 'for every input the law returns true; each argument reads behind the call as it read before'; 0 by the template 'total and deterministic' (their statements: YtabgmjakkgalgaaTotals.lean).
  GIVEN WITH THE SEED: the statements are not yours to turn. If you find one false, say at which input.
  Laid BY PROGRAM, IN A SANDBOX (cutbox-rows.mjs): the forced cells as the released guide's own fill.sh prints them over the translation a439378a4b908c41… (all of the seat's roots in one cut). By AI agents, Wed Nov 11 2026. No macro, syntax, notation, axiom, sorry.
-/
import Derived.Test.YtabgmjakkgalgaaChecked
import GoSem.Claim
import GoSem.ClaimJoined
import GoSem.ClaimMapViews
import Derived.JoinedTies
import Derived.KernelRfl
namespace Go.Proofs.Ytabgmjakkgalgaa
/- THE CELL 'sum', in the pinned program and in every row, IS THE sha256 OF THE DUMP (.gsa) THAT YtabgmjakkgalgaaProg.lean LOADS. Nothing in Lean hashes anything: it is a label: what it is worth is what the hold of that sum in a sandbox is worth. -/
noncomputable def Try.pinned : Pinned := { name := "ytabgmjakkgalgaa", sum := "a439378a4b908c4104e713709c21d4cbf4486669915e701265fac5129589ba8c", checked := Try.checked }
namespace Rows
def none {H : Type} : Left H := { results := [], args := [] }

/-- 'laws.FnExactCountClasses': WHATEVER THE INPUT: true; the input reads as it did. -/
def fnExactCountClassesSpec : ChangeSpec := { name := "fnExactCountClasses", fn := fun _ => fun
  | [d] => { results := [.lit (.bool true)], args := [d] }
  | _ => none }
def fnExactCountClassesRow : OpenClaim := { program := "ytabgmjakkgalgaa", sum := "a439378a4b908c4104e713709c21d4cbf4486669915e701265fac5129589ba8c", func := "loop.example/g01355/laws.FnExactCountClasses", spec := "fnExactCountClasses", unfollowed := true, recurses := true, apart := false }
def FnExactCountClassesSaid : Prop := fnExactCountClassesRow.holds Try.pinned (OpenSpec.ofChange fnExactCountClassesSpec)

/-- ITS FALSE NEIGHBOUR: 'it returns false'. Refute it at one input. -/
def fnExactCountClassesWrong : ChangeSpec := { name := "fnExactCountClasses", fn := fun _ => fun
  | [d] => { results := [.lit (.bool false)], args := [d] }
  | _ => none }
def FnExactCountClassesWrongFalsely : Prop := fnExactCountClassesRow.holds Try.pinned (OpenSpec.ofChange fnExactCountClassesWrong)

/-- 'laws.FnExactFixes': WHATEVER THE INPUT: true; the input reads as it did. -/
def fnExactFixesSpec : ChangeSpec := { name := "fnExactFixes", fn := fun _ => fun
  | [d] => { results := [.lit (.bool true)], args := [d] }
  | _ => none }
def fnExactFixesRow : OpenClaim := { program := "ytabgmjakkgalgaa", sum := "a439378a4b908c4104e713709c21d4cbf4486669915e701265fac5129589ba8c", func := "loop.example/g01355/laws.FnExactFixes", spec := "fnExactFixes", unfollowed := true, recurses := true, apart := false }
def FnExactFixesSaid : Prop := fnExactFixesRow.holds Try.pinned (OpenSpec.ofChange fnExactFixesSpec)

/-- ITS FALSE NEIGHBOUR: 'it returns false'. Refute it at one input. -/
def fnExactFixesWrong : ChangeSpec := { name := "fnExactFixes", fn := fun _ => fun
  | [d] => { results := [.lit (.bool false)], args := [d] }
  | _ => none }
def FnExactFixesWrongFalsely : Prop := fnExactFixesRow.holds Try.pinned (OpenSpec.ofChange fnExactFixesWrong)

/-- 'laws.FnExactProductOfTurns': WHATEVER THE INPUT: true; the input reads as it did. -/
def fnExactProductOfTurnsSpec : ChangeSpec := { name := "fnExactProductOfTurns", fn := fun _ => fun
  | [d1, d2, d3] => { results := [.lit (.bool true)], args := [d1, d2, d3] }
  | _ => none }
def fnExactProductOfTurnsRow : OpenClaim := { program := "ytabgmjakkgalgaa", sum := "a439378a4b908c4104e713709c21d4cbf4486669915e701265fac5129589ba8c", func := "loop.example/g01355/laws.FnExactProductOfTurns", spec := "fnExactProductOfTurns", unfollowed := true, recurses := true, apart := false }
def FnExactProductOfTurnsSaid : Prop := fnExactProductOfTurnsRow.holds Try.pinned (OpenSpec.ofChange fnExactProductOfTurnsSpec)

/-- ITS FALSE NEIGHBOUR: 'it returns false'. Refute it at one input. -/
def fnExactProductOfTurnsWrong : ChangeSpec := { name := "fnExactProductOfTurns", fn := fun _ => fun
  | [d1, d2, d3] => { results := [.lit (.bool false)], args := [d1, d2, d3] }
  | _ => none }
def FnExactProductOfTurnsWrongFalsely : Prop := fnExactProductOfTurnsRow.holds Try.pinned (OpenSpec.ofChange fnExactProductOfTurnsWrong)

/-- 'laws.FnExactFirstCompletion': WHATEVER THE INPUT: true; the input reads as it did. -/
def fnExactFirstCompletionSpec : ChangeSpec := { name := "fnExactFirstCompletion", fn := fun _ => fun
  | [d] => { results := [.lit (.bool true)], args := [d] }
  | _ => none }
def fnExactFirstCompletionRow : OpenClaim := { program := "ytabgmjakkgalgaa", sum := "a439378a4b908c4104e713709c21d4cbf4486669915e701265fac5129589ba8c", func := "loop.example/g01355/laws.FnExactFirstCompletion", spec := "fnExactFirstCompletion", unfollowed := true, recurses := true, apart := false }
def FnExactFirstCompletionSaid : Prop := fnExactFirstCompletionRow.holds Try.pinned (OpenSpec.ofChange fnExactFirstCompletionSpec)

/-- ITS FALSE NEIGHBOUR: 'it returns false'. Refute it at one input. -/
def fnExactFirstCompletionWrong : ChangeSpec := { name := "fnExactFirstCompletion", fn := fun _ => fun
  | [d] => { results := [.lit (.bool false)], args := [d] }
  | _ => none }
def FnExactFirstCompletionWrongFalsely : Prop := fnExactFirstCompletionRow.holds Try.pinned (OpenSpec.ofChange fnExactFirstCompletionWrong)

/-- 'laws.FnExactCompletionsOf': WHATEVER THE INPUT: true; the input reads as it did. -/
def fnExactCompletionsOfSpec : ChangeSpec := { name := "fnExactCompletionsOf", fn := fun _ => fun
  | [d] => { results := [.lit (.bool true)], args := [d] }
  | _ => none }
def fnExactCompletionsOfRow : OpenClaim := { program := "ytabgmjakkgalgaa", sum := "a439378a4b908c4104e713709c21d4cbf4486669915e701265fac5129589ba8c", func := "loop.example/g01355/laws.FnExactCompletionsOf", spec := "fnExactCompletionsOf", unfollowed := true, recurses := true, apart := false }
def FnExactCompletionsOfSaid : Prop := fnExactCompletionsOfRow.holds Try.pinned (OpenSpec.ofChange fnExactCompletionsOfSpec)

/-- ITS FALSE NEIGHBOUR: 'it returns false'. Refute it at one input. -/
def fnExactCompletionsOfWrong : ChangeSpec := { name := "fnExactCompletionsOf", fn := fun _ => fun
  | [d] => { results := [.lit (.bool false)], args := [d] }
  | _ => none }
def FnExactCompletionsOfWrongFalsely : Prop := fnExactCompletionsOfRow.holds Try.pinned (OpenSpec.ofChange fnExactCompletionsOfWrong)

/- THE SECOND FORM. 'bulk': how many values and letters a reading holds, each counted each time it is reached (what is shared counts as often as it is met; a slice's spare places count too). A statement '..UptoSaid' is the law's where the arguments, and the package variables that the reading takes, are together of bulk at most 1048576: NARROWER than '..Said'. Prove '..Said' where nothing that the law and all that it calls make is longer than what came in: it says more and counts as full. Else prove '..UptoSaid'. A law counts once. -/
mutual
def uptoBulk {H : Type} : DataW H → Nat
  | .lit (.string bytes) => bytes.length + 1
  | .lit _ => 1
  | .nil => 1
  | .ptr d => uptoBulk d + 1
  | .slice elems spare => uptoBulkAll elems + uptoBulkAll spare + 1
  | .agg parts => uptoBulkAll parts + 1
  | .iface _ d => uptoBulk d + 1
  | .map entries => uptoBulkEntries entries + 1
  | .held _ => 1
def uptoBulkAll {H : Type} : List (DataW H) → Nat
  | [] => 0
  | d :: r => uptoBulk d + uptoBulkAll r
def uptoBulkEntries {H : Type} : List (Lit × DataW H) → Nat
  | [] => 0
  | x :: r => uptoBulkEntry x + uptoBulkEntries r
def uptoBulkEntry {H : Type} : Lit × DataW H → Nat
  | (.string bytes, d) => bytes.length + uptoBulk d + 1
  | (_, d) => uptoBulk d + 1
 end
def uptoSmall : (H : Type) → List (DataW H) → Bool := fun _ ds => decide (uptoBulkAll ds ≤ 1048576)
def OpenSpec.upto (s : _root_.Go.ChangeSpec) : _root_.Go.OpenSpec := { _root_.Go.OpenSpec.ofChange s with cond := some uptoSmall }

/-- 'laws.FnExactCountClasses', WHERE WHAT IT READS IS OF BULK AT MOST 1048576: true; the input reads as it did. -/
def fnExactCountClassesUptoRow : OpenClaim := { program := "ytabgmjakkgalgaa", sum := "a439378a4b908c4104e713709c21d4cbf4486669915e701265fac5129589ba8c", func := "loop.example/g01355/laws.FnExactCountClasses", spec := "fnExactCountClasses", unfollowed := true, recurses := true, apart := false, narrowed := true }
def FnExactCountClassesUptoSaid : Prop := fnExactCountClassesUptoRow.holds Try.pinned (OpenSpec.upto fnExactCountClassesSpec)

/-- 'laws.FnExactFixes', WHERE WHAT IT READS IS OF BULK AT MOST 1048576: true; the input reads as it did. -/
def fnExactFixesUptoRow : OpenClaim := { program := "ytabgmjakkgalgaa", sum := "a439378a4b908c4104e713709c21d4cbf4486669915e701265fac5129589ba8c", func := "loop.example/g01355/laws.FnExactFixes", spec := "fnExactFixes", unfollowed := true, recurses := true, apart := false, narrowed := true }
def FnExactFixesUptoSaid : Prop := fnExactFixesUptoRow.holds Try.pinned (OpenSpec.upto fnExactFixesSpec)

/-- 'laws.FnExactProductOfTurns', WHERE WHAT IT READS IS OF BULK AT MOST 1048576: true; the input reads as it did. -/
def fnExactProductOfTurnsUptoRow : OpenClaim := { program := "ytabgmjakkgalgaa", sum := "a439378a4b908c4104e713709c21d4cbf4486669915e701265fac5129589ba8c", func := "loop.example/g01355/laws.FnExactProductOfTurns", spec := "fnExactProductOfTurns", unfollowed := true, recurses := true, apart := false, narrowed := true }
def FnExactProductOfTurnsUptoSaid : Prop := fnExactProductOfTurnsUptoRow.holds Try.pinned (OpenSpec.upto fnExactProductOfTurnsSpec)

/-- 'laws.FnExactFirstCompletion', WHERE WHAT IT READS IS OF BULK AT MOST 1048576: true; the input reads as it did. -/
def fnExactFirstCompletionUptoRow : OpenClaim := { program := "ytabgmjakkgalgaa", sum := "a439378a4b908c4104e713709c21d4cbf4486669915e701265fac5129589ba8c", func := "loop.example/g01355/laws.FnExactFirstCompletion", spec := "fnExactFirstCompletion", unfollowed := true, recurses := true, apart := false, narrowed := true }
def FnExactFirstCompletionUptoSaid : Prop := fnExactFirstCompletionUptoRow.holds Try.pinned (OpenSpec.upto fnExactFirstCompletionSpec)

/-- 'laws.FnExactCompletionsOf', WHERE WHAT IT READS IS OF BULK AT MOST 1048576: true; the input reads as it did. -/
def fnExactCompletionsOfUptoRow : OpenClaim := { program := "ytabgmjakkgalgaa", sum := "a439378a4b908c4104e713709c21d4cbf4486669915e701265fac5129589ba8c", func := "loop.example/g01355/laws.FnExactCompletionsOf", spec := "fnExactCompletionsOf", unfollowed := true, recurses := true, apart := false, narrowed := true }
def FnExactCompletionsOfUptoSaid : Prop := fnExactCompletionsOfUptoRow.holds Try.pinned (OpenSpec.upto fnExactCompletionsOfSpec)

end Rows
end Go.Proofs.Ytabgmjakkgalgaa
