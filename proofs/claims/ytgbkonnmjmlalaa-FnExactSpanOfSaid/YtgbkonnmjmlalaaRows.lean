/-
  No cell of these rows narrows 'for every input' (looked for: loops, veiled, ifaces, maps, wideKeys, modest, calm, conditions, laid).
  DERIVED. THE GIVEN ROWS OF THIS SEAT. 12 by the template 'for every input the law returns true; each argument reads behind the call as it read before'; 0 by the template 'total and deterministic' (their statements: YtgbkonnmjmlalaaTotals.lean).
  GIVEN WITH THE SEED: the statements are not yours to turn. If you find one false, say at which input.
  Laid BY PROGRAM, IN A SANDBOX (cutbox-rows.mjs): the forced cells as the released guide's own fill.sh prints them over the translation 10185bdc59e4ccb1… (all of the seat's roots in one cut). By AI agents, Wed Nov 11 2026. No macro, syntax, notation, axiom, sorry.
-/
import Derived.Test.YtgbkonnmjmlalaaChecked
import GoSem.Claim
import GoSem.ClaimJoined
import GoSem.ClaimMapViews
import Derived.JoinedTies
import Derived.KernelRfl
namespace Go.Proofs.Ytgbkonnmjmlalaa
/- THE CELL 'sum', in the pinned program and in every row, IS THE sha256 OF THE DUMP (.gsa) THAT YtgbkonnmjmlalaaProg.lean LOADS. Nothing in Lean hashes anything: it is a label: what it is worth is what the hold of that sum in a sandbox is worth. -/
noncomputable def Try.pinned : Pinned := { name := "ytgbkonnmjmlalaa", sum := "10185bdc59e4ccb135ccb42a11f18ccec2e19d6eca59f9a2edb00b18a8534863", checked := Try.checked }
namespace Rows
def none {H : Type} : Left H := { results := [], args := [] }

/-- 'laws.FnExactCountAutomorphisms': WHATEVER THE INPUT: true; the input reads as it did. -/
def fnExactCountAutomorphismsSpec : ChangeSpec := { name := "fnExactCountAutomorphisms", fn := fun _ => fun
  | [d] => { results := [.lit (.bool true)], args := [d] }
  | _ => none }
def fnExactCountAutomorphismsRow : OpenClaim := { program := "ytgbkonnmjmlalaa", sum := "10185bdc59e4ccb135ccb42a11f18ccec2e19d6eca59f9a2edb00b18a8534863", func := "loop.example/g01355/laws.FnExactCountAutomorphisms", spec := "fnExactCountAutomorphisms", unfollowed := true, recurses := true, apart := false }
def FnExactCountAutomorphismsSaid : Prop := fnExactCountAutomorphismsRow.holds Try.pinned (OpenSpec.ofChange fnExactCountAutomorphismsSpec)

/-- ITS FALSE NEIGHBOUR: 'it returns false'. Refute it at one input. -/
def fnExactCountAutomorphismsWrong : ChangeSpec := { name := "fnExactCountAutomorphisms", fn := fun _ => fun
  | [d] => { results := [.lit (.bool false)], args := [d] }
  | _ => none }
def FnExactCountAutomorphismsWrongFalsely : Prop := fnExactCountAutomorphismsRow.holds Try.pinned (OpenSpec.ofChange fnExactCountAutomorphismsWrong)

/-- 'laws.FnExactStabiliserNumber': WHATEVER THE INPUT: true; the input reads as it did. -/
def fnExactStabiliserNumberSpec : ChangeSpec := { name := "fnExactStabiliserNumber", fn := fun _ => fun
  | [d1, d2] => { results := [.lit (.bool true)], args := [d1, d2] }
  | _ => none }
def fnExactStabiliserNumberRow : OpenClaim := { program := "ytgbkonnmjmlalaa", sum := "10185bdc59e4ccb135ccb42a11f18ccec2e19d6eca59f9a2edb00b18a8534863", func := "loop.example/g01355/laws.FnExactStabiliserNumber", spec := "fnExactStabiliserNumber", unfollowed := true, recurses := true, apart := false }
def FnExactStabiliserNumberSaid : Prop := fnExactStabiliserNumberRow.holds Try.pinned (OpenSpec.ofChange fnExactStabiliserNumberSpec)

/-- ITS FALSE NEIGHBOUR: 'it returns false'. Refute it at one input. -/
def fnExactStabiliserNumberWrong : ChangeSpec := { name := "fnExactStabiliserNumber", fn := fun _ => fun
  | [d1, d2] => { results := [.lit (.bool false)], args := [d1, d2] }
  | _ => none }
def FnExactStabiliserNumberWrongFalsely : Prop := fnExactStabiliserNumberRow.holds Try.pinned (OpenSpec.ofChange fnExactStabiliserNumberWrong)

/-- 'laws.FnExactAreIsomorphic': WHATEVER THE INPUT: true; the input reads as it did. -/
def fnExactAreIsomorphicSpec : ChangeSpec := { name := "fnExactAreIsomorphic", fn := fun _ => fun
  | [d1, d2] => { results := [.lit (.bool true)], args := [d1, d2] }
  | _ => none }
def fnExactAreIsomorphicRow : OpenClaim := { program := "ytgbkonnmjmlalaa", sum := "10185bdc59e4ccb135ccb42a11f18ccec2e19d6eca59f9a2edb00b18a8534863", func := "loop.example/g01355/laws.FnExactAreIsomorphic", spec := "fnExactAreIsomorphic", unfollowed := true, recurses := true, apart := false }
def FnExactAreIsomorphicSaid : Prop := fnExactAreIsomorphicRow.holds Try.pinned (OpenSpec.ofChange fnExactAreIsomorphicSpec)

/-- ITS FALSE NEIGHBOUR: 'it returns false'. Refute it at one input. -/
def fnExactAreIsomorphicWrong : ChangeSpec := { name := "fnExactAreIsomorphic", fn := fun _ => fun
  | [d1, d2] => { results := [.lit (.bool false)], args := [d1, d2] }
  | _ => none }
def FnExactAreIsomorphicWrongFalsely : Prop := fnExactAreIsomorphicRow.holds Try.pinned (OpenSpec.ofChange fnExactAreIsomorphicWrong)

/-- 'laws.FnExactFindRenumbering': WHATEVER THE INPUT: true; the input reads as it did. -/
def fnExactFindRenumberingSpec : ChangeSpec := { name := "fnExactFindRenumbering", fn := fun _ => fun
  | [d1, d2] => { results := [.lit (.bool true)], args := [d1, d2] }
  | _ => none }
def fnExactFindRenumberingRow : OpenClaim := { program := "ytgbkonnmjmlalaa", sum := "10185bdc59e4ccb135ccb42a11f18ccec2e19d6eca59f9a2edb00b18a8534863", func := "loop.example/g01355/laws.FnExactFindRenumbering", spec := "fnExactFindRenumbering", unfollowed := true, recurses := true, apart := false }
def FnExactFindRenumberingSaid : Prop := fnExactFindRenumberingRow.holds Try.pinned (OpenSpec.ofChange fnExactFindRenumberingSpec)

/-- ITS FALSE NEIGHBOUR: 'it returns false'. Refute it at one input. -/
def fnExactFindRenumberingWrong : ChangeSpec := { name := "fnExactFindRenumbering", fn := fun _ => fun
  | [d1, d2] => { results := [.lit (.bool false)], args := [d1, d2] }
  | _ => none }
def FnExactFindRenumberingWrongFalsely : Prop := fnExactFindRenumberingRow.holds Try.pinned (OpenSpec.ofChange fnExactFindRenumberingWrong)

/-- 'laws.FnExactGoesAround': WHATEVER THE INPUT: true; the input reads as it did. -/
def fnExactGoesAroundSpec : ChangeSpec := { name := "fnExactGoesAround", fn := fun _ => fun
  | [d] => { results := [.lit (.bool true)], args := [d] }
  | _ => none }
def fnExactGoesAroundRow : OpenClaim := { program := "ytgbkonnmjmlalaa", sum := "10185bdc59e4ccb135ccb42a11f18ccec2e19d6eca59f9a2edb00b18a8534863", func := "loop.example/g01355/laws.FnExactGoesAround", spec := "fnExactGoesAround", unfollowed := true, recurses := true, apart := false }
def FnExactGoesAroundSaid : Prop := fnExactGoesAroundRow.holds Try.pinned (OpenSpec.ofChange fnExactGoesAroundSpec)

/-- ITS FALSE NEIGHBOUR: 'it returns false'. Refute it at one input. -/
def fnExactGoesAroundWrong : ChangeSpec := { name := "fnExactGoesAround", fn := fun _ => fun
  | [d] => { results := [.lit (.bool false)], args := [d] }
  | _ => none }
def FnExactGoesAroundWrongFalsely : Prop := fnExactGoesAroundRow.holds Try.pinned (OpenSpec.ofChange fnExactGoesAroundWrong)

/-- 'laws.FnExactKeptNumbers': WHATEVER THE INPUT: true; the input reads as it did. -/
def fnExactKeptNumbersSpec : ChangeSpec := { name := "fnExactKeptNumbers", fn := fun _ => fun
  | [d] => { results := [.lit (.bool true)], args := [d] }
  | _ => none }
def fnExactKeptNumbersRow : OpenClaim := { program := "ytgbkonnmjmlalaa", sum := "10185bdc59e4ccb135ccb42a11f18ccec2e19d6eca59f9a2edb00b18a8534863", func := "loop.example/g01355/laws.FnExactKeptNumbers", spec := "fnExactKeptNumbers", unfollowed := true, recurses := true, apart := false }
def FnExactKeptNumbersSaid : Prop := fnExactKeptNumbersRow.holds Try.pinned (OpenSpec.ofChange fnExactKeptNumbersSpec)

/-- ITS FALSE NEIGHBOUR: 'it returns false'. Refute it at one input. -/
def fnExactKeptNumbersWrong : ChangeSpec := { name := "fnExactKeptNumbers", fn := fun _ => fun
  | [d] => { results := [.lit (.bool false)], args := [d] }
  | _ => none }
def FnExactKeptNumbersWrongFalsely : Prop := fnExactKeptNumbersRow.holds Try.pinned (OpenSpec.ofChange fnExactKeptNumbersWrong)

/-- 'laws.FnExactAutomorphismsOf': WHATEVER THE INPUT: true; the input reads as it did. -/
def fnExactAutomorphismsOfSpec : ChangeSpec := { name := "fnExactAutomorphismsOf", fn := fun _ => fun
  | [d] => { results := [.lit (.bool true)], args := [d] }
  | _ => none }
def fnExactAutomorphismsOfRow : OpenClaim := { program := "ytgbkonnmjmlalaa", sum := "10185bdc59e4ccb135ccb42a11f18ccec2e19d6eca59f9a2edb00b18a8534863", func := "loop.example/g01355/laws.FnExactAutomorphismsOf", spec := "fnExactAutomorphismsOf", unfollowed := true, recurses := true, apart := false }
def FnExactAutomorphismsOfSaid : Prop := fnExactAutomorphismsOfRow.holds Try.pinned (OpenSpec.ofChange fnExactAutomorphismsOfSpec)

/-- ITS FALSE NEIGHBOUR: 'it returns false'. Refute it at one input. -/
def fnExactAutomorphismsOfWrong : ChangeSpec := { name := "fnExactAutomorphismsOf", fn := fun _ => fun
  | [d] => { results := [.lit (.bool false)], args := [d] }
  | _ => none }
def FnExactAutomorphismsOfWrongFalsely : Prop := fnExactAutomorphismsOfRow.holds Try.pinned (OpenSpec.ofChange fnExactAutomorphismsOfWrong)

/-- 'laws.FnExactPointOrbits': WHATEVER THE INPUT: true; the input reads as it did. -/
def fnExactPointOrbitsSpec : ChangeSpec := { name := "fnExactPointOrbits", fn := fun _ => fun
  | [d] => { results := [.lit (.bool true)], args := [d] }
  | _ => none }
def fnExactPointOrbitsRow : OpenClaim := { program := "ytgbkonnmjmlalaa", sum := "10185bdc59e4ccb135ccb42a11f18ccec2e19d6eca59f9a2edb00b18a8534863", func := "loop.example/g01355/laws.FnExactPointOrbits", spec := "fnExactPointOrbits", unfollowed := true, recurses := true, apart := false }
def FnExactPointOrbitsSaid : Prop := fnExactPointOrbitsRow.holds Try.pinned (OpenSpec.ofChange fnExactPointOrbitsSpec)

/-- ITS FALSE NEIGHBOUR: 'it returns false'. Refute it at one input. -/
def fnExactPointOrbitsWrong : ChangeSpec := { name := "fnExactPointOrbits", fn := fun _ => fun
  | [d] => { results := [.lit (.bool false)], args := [d] }
  | _ => none }
def FnExactPointOrbitsWrongFalsely : Prop := fnExactPointOrbitsRow.holds Try.pinned (OpenSpec.ofChange fnExactPointOrbitsWrong)

/-- 'laws.FnExactBlockOrbits': WHATEVER THE INPUT: true; the input reads as it did. -/
def fnExactBlockOrbitsSpec : ChangeSpec := { name := "fnExactBlockOrbits", fn := fun _ => fun
  | [d] => { results := [.lit (.bool true)], args := [d] }
  | _ => none }
def fnExactBlockOrbitsRow : OpenClaim := { program := "ytgbkonnmjmlalaa", sum := "10185bdc59e4ccb135ccb42a11f18ccec2e19d6eca59f9a2edb00b18a8534863", func := "loop.example/g01355/laws.FnExactBlockOrbits", spec := "fnExactBlockOrbits", unfollowed := true, recurses := true, apart := false }
def FnExactBlockOrbitsSaid : Prop := fnExactBlockOrbitsRow.holds Try.pinned (OpenSpec.ofChange fnExactBlockOrbitsSpec)

/-- ITS FALSE NEIGHBOUR: 'it returns false'. Refute it at one input. -/
def fnExactBlockOrbitsWrong : ChangeSpec := { name := "fnExactBlockOrbits", fn := fun _ => fun
  | [d] => { results := [.lit (.bool false)], args := [d] }
  | _ => none }
def FnExactBlockOrbitsWrongFalsely : Prop := fnExactBlockOrbitsRow.holds Try.pinned (OpenSpec.ofChange fnExactBlockOrbitsWrong)

/-- 'laws.FnExactSpanOf': WHATEVER THE INPUT: true; the input reads as it did. -/
def fnExactSpanOfSpec : ChangeSpec := { name := "fnExactSpanOf", fn := fun _ => fun
  | [d1, d2] => { results := [.lit (.bool true)], args := [d1, d2] }
  | _ => none }
def fnExactSpanOfRow : OpenClaim := { program := "ytgbkonnmjmlalaa", sum := "10185bdc59e4ccb135ccb42a11f18ccec2e19d6eca59f9a2edb00b18a8534863", func := "loop.example/g01355/laws.FnExactSpanOf", spec := "fnExactSpanOf", apart := false }
def FnExactSpanOfSaid : Prop := fnExactSpanOfRow.holds Try.pinned (OpenSpec.ofChange fnExactSpanOfSpec)

/-- ITS FALSE NEIGHBOUR: 'it returns false'. Refute it at one input. -/
def fnExactSpanOfWrong : ChangeSpec := { name := "fnExactSpanOf", fn := fun _ => fun
  | [d1, d2] => { results := [.lit (.bool false)], args := [d1, d2] }
  | _ => none }
def FnExactSpanOfWrongFalsely : Prop := fnExactSpanOfRow.holds Try.pinned (OpenSpec.ofChange fnExactSpanOfWrong)

/-- 'laws.FnExactIsClosed': WHATEVER THE INPUT: true; the input reads as it did. -/
def fnExactIsClosedSpec : ChangeSpec := { name := "fnExactIsClosed", fn := fun _ => fun
  | [d1, d2] => { results := [.lit (.bool true)], args := [d1, d2] }
  | _ => none }
def fnExactIsClosedRow : OpenClaim := { program := "ytgbkonnmjmlalaa", sum := "10185bdc59e4ccb135ccb42a11f18ccec2e19d6eca59f9a2edb00b18a8534863", func := "loop.example/g01355/laws.FnExactIsClosed", spec := "fnExactIsClosed", apart := false }
def FnExactIsClosedSaid : Prop := fnExactIsClosedRow.holds Try.pinned (OpenSpec.ofChange fnExactIsClosedSpec)

/-- ITS FALSE NEIGHBOUR: 'it returns false'. Refute it at one input. -/
def fnExactIsClosedWrong : ChangeSpec := { name := "fnExactIsClosed", fn := fun _ => fun
  | [d1, d2] => { results := [.lit (.bool false)], args := [d1, d2] }
  | _ => none }
def FnExactIsClosedWrongFalsely : Prop := fnExactIsClosedRow.holds Try.pinned (OpenSpec.ofChange fnExactIsClosedWrong)

/-- 'laws.FnExactCountClasses': WHATEVER THE INPUT: true; the input reads as it did. -/
def fnExactCountClassesSpec : ChangeSpec := { name := "fnExactCountClasses", fn := fun _ => fun
  | [d] => { results := [.lit (.bool true)], args := [d] }
  | _ => none }
def fnExactCountClassesRow : OpenClaim := { program := "ytgbkonnmjmlalaa", sum := "10185bdc59e4ccb135ccb42a11f18ccec2e19d6eca59f9a2edb00b18a8534863", func := "loop.example/g01355/laws.FnExactCountClasses", spec := "fnExactCountClasses", unfollowed := true, recurses := true, apart := false }
def FnExactCountClassesSaid : Prop := fnExactCountClassesRow.holds Try.pinned (OpenSpec.ofChange fnExactCountClassesSpec)

/-- ITS FALSE NEIGHBOUR: 'it returns false'. Refute it at one input. -/
def fnExactCountClassesWrong : ChangeSpec := { name := "fnExactCountClasses", fn := fun _ => fun
  | [d] => { results := [.lit (.bool false)], args := [d] }
  | _ => none }
def FnExactCountClassesWrongFalsely : Prop := fnExactCountClassesRow.holds Try.pinned (OpenSpec.ofChange fnExactCountClassesWrong)

/- THE SECOND FORM. 'bulk': how many values and letters a reading holds, each counted each time it is reached (what is shared counts as often as it is met; a slice's spare places count too). A statement '..UptoSaid' is the law's where the arguments, and the package variables that the reading takes, are together of bulk at most 1048576: NARROWER than '..Said'. Prove '..Said' where nothing that the law and all that it calls make is longer than what came in: it says more and counts as full. Else prove '..UptoSaid'. A law counts once. -/
mutual
def uptoBulk {H : Type} : DataW H → Nat
  | .lit (.string bytes) => bytes.length + 1
  | .lit _ => 1
  | .nil => 1
  | .ptr d => uptoBulk d + 1
  | .slice elems spare => uptoBulkAll elems + uptoBulkAll spare + 1
  | .agg parts => uptoBulkAll parts + 1
  | .iface _ d => uptoBulk d + 1
  | .map entries => uptoBulkEntries entries + 1
  | .held _ => 1
def uptoBulkAll {H : Type} : List (DataW H) → Nat
  | [] => 0
  | d :: r => uptoBulk d + uptoBulkAll r
def uptoBulkEntries {H : Type} : List (Lit × DataW H) → Nat
  | [] => 0
  | x :: r => uptoBulkEntry x + uptoBulkEntries r
def uptoBulkEntry {H : Type} : Lit × DataW H → Nat
  | (.string bytes, d) => bytes.length + uptoBulk d + 1
  | (_, d) => uptoBulk d + 1
 end
def uptoSmall : (H : Type) → List (DataW H) → Bool := fun _ ds => decide (uptoBulkAll ds ≤ 1048576)
def OpenSpec.upto (s : _root_.Go.ChangeSpec) : _root_.Go.OpenSpec := { _root_.Go.OpenSpec.ofChange s with cond := some uptoSmall }

/-- 'laws.FnExactCountAutomorphisms', WHERE WHAT IT READS IS OF BULK AT MOST 1048576: true; the input reads as it did. -/
def fnExactCountAutomorphismsUptoRow : OpenClaim := { program := "ytgbkonnmjmlalaa", sum := "10185bdc59e4ccb135ccb42a11f18ccec2e19d6eca59f9a2edb00b18a8534863", func := "loop.example/g01355/laws.FnExactCountAutomorphisms", spec := "fnExactCountAutomorphisms", unfollowed := true, recurses := true, apart := false, narrowed := true }
def FnExactCountAutomorphismsUptoSaid : Prop := fnExactCountAutomorphismsUptoRow.holds Try.pinned (OpenSpec.upto fnExactCountAutomorphismsSpec)

/-- 'laws.FnExactStabiliserNumber', WHERE WHAT IT READS IS OF BULK AT MOST 1048576: true; the input reads as it did. -/
def fnExactStabiliserNumberUptoRow : OpenClaim := { program := "ytgbkonnmjmlalaa", sum := "10185bdc59e4ccb135ccb42a11f18ccec2e19d6eca59f9a2edb00b18a8534863", func := "loop.example/g01355/laws.FnExactStabiliserNumber", spec := "fnExactStabiliserNumber", unfollowed := true, recurses := true, apart := false, narrowed := true }
def FnExactStabiliserNumberUptoSaid : Prop := fnExactStabiliserNumberUptoRow.holds Try.pinned (OpenSpec.upto fnExactStabiliserNumberSpec)

/-- 'laws.FnExactAreIsomorphic', WHERE WHAT IT READS IS OF BULK AT MOST 1048576: true; the input reads as it did. -/
def fnExactAreIsomorphicUptoRow : OpenClaim := { program := "ytgbkonnmjmlalaa", sum := "10185bdc59e4ccb135ccb42a11f18ccec2e19d6eca59f9a2edb00b18a8534863", func := "loop.example/g01355/laws.FnExactAreIsomorphic", spec := "fnExactAreIsomorphic", unfollowed := true, recurses := true, apart := false, narrowed := true }
def FnExactAreIsomorphicUptoSaid : Prop := fnExactAreIsomorphicUptoRow.holds Try.pinned (OpenSpec.upto fnExactAreIsomorphicSpec)

/-- 'laws.FnExactFindRenumbering', WHERE WHAT IT READS IS OF BULK AT MOST 1048576: true; the input reads as it did. -/
def fnExactFindRenumberingUptoRow : OpenClaim := { program := "ytgbkonnmjmlalaa", sum := "10185bdc59e4ccb135ccb42a11f18ccec2e19d6eca59f9a2edb00b18a8534863", func := "loop.example/g01355/laws.FnExactFindRenumbering", spec := "fnExactFindRenumbering", unfollowed := true, recurses := true, apart := false, narrowed := true }
def FnExactFindRenumberingUptoSaid : Prop := fnExactFindRenumberingUptoRow.holds Try.pinned (OpenSpec.upto fnExactFindRenumberingSpec)

/-- 'laws.FnExactGoesAround', WHERE WHAT IT READS IS OF BULK AT MOST 1048576: true; the input reads as it did. -/
def fnExactGoesAroundUptoRow : OpenClaim := { program := "ytgbkonnmjmlalaa", sum := "10185bdc59e4ccb135ccb42a11f18ccec2e19d6eca59f9a2edb00b18a8534863", func := "loop.example/g01355/laws.FnExactGoesAround", spec := "fnExactGoesAround", unfollowed := true, recurses := true, apart := false, narrowed := true }
def FnExactGoesAroundUptoSaid : Prop := fnExactGoesAroundUptoRow.holds Try.pinned (OpenSpec.upto fnExactGoesAroundSpec)

/-- 'laws.FnExactKeptNumbers', WHERE WHAT IT READS IS OF BULK AT MOST 1048576: true; the input reads as it did. -/
def fnExactKeptNumbersUptoRow : OpenClaim := { program := "ytgbkonnmjmlalaa", sum := "10185bdc59e4ccb135ccb42a11f18ccec2e19d6eca59f9a2edb00b18a8534863", func := "loop.example/g01355/laws.FnExactKeptNumbers", spec := "fnExactKeptNumbers", unfollowed := true, recurses := true, apart := false, narrowed := true }
def FnExactKeptNumbersUptoSaid : Prop := fnExactKeptNumbersUptoRow.holds Try.pinned (OpenSpec.upto fnExactKeptNumbersSpec)

/-- 'laws.FnExactAutomorphismsOf', WHERE WHAT IT READS IS OF BULK AT MOST 1048576: true; the input reads as it did. -/
def fnExactAutomorphismsOfUptoRow : OpenClaim := { program := "ytgbkonnmjmlalaa", sum := "10185bdc59e4ccb135ccb42a11f18ccec2e19d6eca59f9a2edb00b18a8534863", func := "loop.example/g01355/laws.FnExactAutomorphismsOf", spec := "fnExactAutomorphismsOf", unfollowed := true, recurses := true, apart := false, narrowed := true }
def FnExactAutomorphismsOfUptoSaid : Prop := fnExactAutomorphismsOfUptoRow.holds Try.pinned (OpenSpec.upto fnExactAutomorphismsOfSpec)

/-- 'laws.FnExactPointOrbits', WHERE WHAT IT READS IS OF BULK AT MOST 1048576: true; the input reads as it did. -/
def fnExactPointOrbitsUptoRow : OpenClaim := { program := "ytgbkonnmjmlalaa", sum := "10185bdc59e4ccb135ccb42a11f18ccec2e19d6eca59f9a2edb00b18a8534863", func := "loop.example/g01355/laws.FnExactPointOrbits", spec := "fnExactPointOrbits", unfollowed := true, recurses := true, apart := false, narrowed := true }
def FnExactPointOrbitsUptoSaid : Prop := fnExactPointOrbitsUptoRow.holds Try.pinned (OpenSpec.upto fnExactPointOrbitsSpec)

/-- 'laws.FnExactBlockOrbits', WHERE WHAT IT READS IS OF BULK AT MOST 1048576: true; the input reads as it did. -/
def fnExactBlockOrbitsUptoRow : OpenClaim := { program := "ytgbkonnmjmlalaa", sum := "10185bdc59e4ccb135ccb42a11f18ccec2e19d6eca59f9a2edb00b18a8534863", func := "loop.example/g01355/laws.FnExactBlockOrbits", spec := "fnExactBlockOrbits", unfollowed := true, recurses := true, apart := false, narrowed := true }
def FnExactBlockOrbitsUptoSaid : Prop := fnExactBlockOrbitsUptoRow.holds Try.pinned (OpenSpec.upto fnExactBlockOrbitsSpec)

/-- 'laws.FnExactSpanOf', WHERE WHAT IT READS IS OF BULK AT MOST 1048576: true; the input reads as it did. -/
def fnExactSpanOfUptoRow : OpenClaim := { program := "ytgbkonnmjmlalaa", sum := "10185bdc59e4ccb135ccb42a11f18ccec2e19d6eca59f9a2edb00b18a8534863", func := "loop.example/g01355/laws.FnExactSpanOf", spec := "fnExactSpanOf", apart := false, narrowed := true }
def FnExactSpanOfUptoSaid : Prop := fnExactSpanOfUptoRow.holds Try.pinned (OpenSpec.upto fnExactSpanOfSpec)

/-- 'laws.FnExactIsClosed', WHERE WHAT IT READS IS OF BULK AT MOST 1048576: true; the input reads as it did. -/
def fnExactIsClosedUptoRow : OpenClaim := { program := "ytgbkonnmjmlalaa", sum := "10185bdc59e4ccb135ccb42a11f18ccec2e19d6eca59f9a2edb00b18a8534863", func := "loop.example/g01355/laws.FnExactIsClosed", spec := "fnExactIsClosed", apart := false, narrowed := true }
def FnExactIsClosedUptoSaid : Prop := fnExactIsClosedUptoRow.holds Try.pinned (OpenSpec.upto fnExactIsClosedSpec)

/-- 'laws.FnExactCountClasses', WHERE WHAT IT READS IS OF BULK AT MOST 1048576: true; the input reads as it did. -/
def fnExactCountClassesUptoRow : OpenClaim := { program := "ytgbkonnmjmlalaa", sum := "10185bdc59e4ccb135ccb42a11f18ccec2e19d6eca59f9a2edb00b18a8534863", func := "loop.example/g01355/laws.FnExactCountClasses", spec := "fnExactCountClasses", unfollowed := true, recurses := true, apart := false, narrowed := true }
def FnExactCountClassesUptoSaid : Prop := fnExactCountClassesUptoRow.holds Try.pinned (OpenSpec.upto fnExactCountClassesSpec)

end Rows
end Go.Proofs.Ytgbkonnmjmlalaa
