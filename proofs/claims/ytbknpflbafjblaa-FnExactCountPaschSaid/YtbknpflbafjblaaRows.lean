/-
  No cell of these rows narrows 'for every input' (looked for: loops, veiled, ifaces, maps, wideKeys, modest, calm, conditions, laid).
  DERIVED. THE GIVEN ROWS OF THIS SEAT. 12 by the template 'for every input the law returns true; each argument reads behind the call as it read before'; 0 by the template 'total and deterministic' (their statements: YtbknpflbafjblaaTotals.lean).
  GIVEN WITH THE SEED: the statements are not yours to turn. If you find one false, say at which input.
  Laid BY PROGRAM, IN A SANDBOX (cutbox-rows.mjs): the forced cells as the released guide's own fill.sh prints them over the translation 431a444658176f50… (all of the seat's roots in one cut). By AI agents, Wed Nov 11 2026. No macro, syntax, notation, axiom, sorry.
-/
import Derived.Test.YtbknpflbafjblaaChecked
import GoSem.Claim
import GoSem.ClaimJoined
import GoSem.ClaimMapViews
import Derived.JoinedTies
import Derived.KernelRfl
namespace Go.Proofs.Ytbknpflbafjblaa
/- THE CELL 'sum', in the pinned program and in every row, IS THE sha256 OF THE DUMP (.gsa) THAT YtbknpflbafjblaaProg.lean LOADS. Nothing in Lean hashes anything: it is a label: what it is worth is what the hold of that sum in a sandbox is worth. -/
noncomputable def Try.pinned : Pinned := { name := "ytbknpflbafjblaa", sum := "431a444658176f508bcfb2fa968fd94e07479d8cf5bb12581559385d293b2305", checked := Try.checked }
namespace Rows
def none {H : Type} : Left H := { results := [], args := [] }

/-- 'laws.FnExactRankModulo': WHATEVER THE INPUT: true; the input reads as it did. -/
def fnExactRankModuloSpec : ChangeSpec := { name := "fnExactRankModulo", fn := fun _ => fun
  | [d1, d2] => { results := [.lit (.bool true)], args := [d1, d2] }
  | _ => none }
def fnExactRankModuloRow : OpenClaim := { program := "ytbknpflbafjblaa", sum := "431a444658176f508bcfb2fa968fd94e07479d8cf5bb12581559385d293b2305", func := "loop.example/g01355/laws.FnExactRankModulo", spec := "fnExactRankModulo", unfollowed := true, recurses := true, apart := false }
def FnExactRankModuloSaid : Prop := fnExactRankModuloRow.holds Try.pinned (OpenSpec.ofChange fnExactRankModuloSpec)

/-- ITS FALSE NEIGHBOUR: 'it returns false'. Refute it at one input. -/
def fnExactRankModuloWrong : ChangeSpec := { name := "fnExactRankModulo", fn := fun _ => fun
  | [d1, d2] => { results := [.lit (.bool false)], args := [d1, d2] }
  | _ => none }
def FnExactRankModuloWrongFalsely : Prop := fnExactRankModuloRow.holds Try.pinned (OpenSpec.ofChange fnExactRankModuloWrong)

/-- 'laws.FnExactIsFamily': WHATEVER THE INPUT: true; the input reads as it did. -/
def fnExactIsFamilySpec : ChangeSpec := { name := "fnExactIsFamily", fn := fun _ => fun
  | [d] => { results := [.lit (.bool true)], args := [d] }
  | _ => none }
def fnExactIsFamilyRow : OpenClaim := { program := "ytbknpflbafjblaa", sum := "431a444658176f508bcfb2fa968fd94e07479d8cf5bb12581559385d293b2305", func := "loop.example/g01355/laws.FnExactIsFamily", spec := "fnExactIsFamily", unfollowed := true, recurses := true, apart := false }
def FnExactIsFamilySaid : Prop := fnExactIsFamilyRow.holds Try.pinned (OpenSpec.ofChange fnExactIsFamilySpec)

/-- ITS FALSE NEIGHBOUR: 'it returns false'. Refute it at one input. -/
def fnExactIsFamilyWrong : ChangeSpec := { name := "fnExactIsFamily", fn := fun _ => fun
  | [d] => { results := [.lit (.bool false)], args := [d] }
  | _ => none }
def FnExactIsFamilyWrongFalsely : Prop := fnExactIsFamilyRow.holds Try.pinned (OpenSpec.ofChange fnExactIsFamilyWrong)

/-- 'laws.FnExactIsWord': WHATEVER THE INPUT: true; the input reads as it did. -/
def fnExactIsWordSpec : ChangeSpec := { name := "fnExactIsWord", fn := fun _ => fun
  | [d1, d2] => { results := [.lit (.bool true)], args := [d1, d2] }
  | _ => none }
def fnExactIsWordRow : OpenClaim := { program := "ytbknpflbafjblaa", sum := "431a444658176f508bcfb2fa968fd94e07479d8cf5bb12581559385d293b2305", func := "loop.example/g01355/laws.FnExactIsWord", spec := "fnExactIsWord", apart := false }
def FnExactIsWordSaid : Prop := fnExactIsWordRow.holds Try.pinned (OpenSpec.ofChange fnExactIsWordSpec)

/-- ITS FALSE NEIGHBOUR: 'it returns false'. Refute it at one input. -/
def fnExactIsWordWrong : ChangeSpec := { name := "fnExactIsWord", fn := fun _ => fun
  | [d1, d2] => { results := [.lit (.bool false)], args := [d1, d2] }
  | _ => none }
def FnExactIsWordWrongFalsely : Prop := fnExactIsWordRow.holds Try.pinned (OpenSpec.ofChange fnExactIsWordWrong)

/-- 'laws.FnExactWordsByWeight': WHATEVER THE INPUT: true; the input reads as it did. -/
def fnExactWordsByWeightSpec : ChangeSpec := { name := "fnExactWordsByWeight", fn := fun _ => fun
  | [d] => { results := [.lit (.bool true)], args := [d] }
  | _ => none }
def fnExactWordsByWeightRow : OpenClaim := { program := "ytbknpflbafjblaa", sum := "431a444658176f508bcfb2fa968fd94e07479d8cf5bb12581559385d293b2305", func := "loop.example/g01355/laws.FnExactWordsByWeight", spec := "fnExactWordsByWeight", apart := false }
def FnExactWordsByWeightSaid : Prop := fnExactWordsByWeightRow.holds Try.pinned (OpenSpec.ofChange fnExactWordsByWeightSpec)

/-- ITS FALSE NEIGHBOUR: 'it returns false'. Refute it at one input. -/
def fnExactWordsByWeightWrong : ChangeSpec := { name := "fnExactWordsByWeight", fn := fun _ => fun
  | [d] => { results := [.lit (.bool false)], args := [d] }
  | _ => none }
def FnExactWordsByWeightWrongFalsely : Prop := fnExactWordsByWeightRow.holds Try.pinned (OpenSpec.ofChange fnExactWordsByWeightWrong)

/-- 'laws.FnExactColourNumber': WHATEVER THE INPUT: true; the input reads as it did. -/
def fnExactColourNumberSpec : ChangeSpec := { name := "fnExactColourNumber", fn := fun _ => fun
  | [d] => { results := [.lit (.bool true)], args := [d] }
  | _ => none }
def fnExactColourNumberRow : OpenClaim := { program := "ytbknpflbafjblaa", sum := "431a444658176f508bcfb2fa968fd94e07479d8cf5bb12581559385d293b2305", func := "loop.example/g01355/laws.FnExactColourNumber", spec := "fnExactColourNumber", recurses := true, apart := false }
def FnExactColourNumberSaid : Prop := fnExactColourNumberRow.holds Try.pinned (OpenSpec.ofChange fnExactColourNumberSpec)

/-- ITS FALSE NEIGHBOUR: 'it returns false'. Refute it at one input. -/
def fnExactColourNumberWrong : ChangeSpec := { name := "fnExactColourNumber", fn := fun _ => fun
  | [d] => { results := [.lit (.bool false)], args := [d] }
  | _ => none }
def FnExactColourNumberWrongFalsely : Prop := fnExactColourNumberRow.holds Try.pinned (OpenSpec.ofChange fnExactColourNumberWrong)

/-- 'laws.FnExactCountPasch': WHATEVER THE INPUT: true; the input reads as it did. -/
def fnExactCountPaschSpec : ChangeSpec := { name := "fnExactCountPasch", fn := fun _ => fun
  | [d] => { results := [.lit (.bool true)], args := [d] }
  | _ => none }
def fnExactCountPaschRow : OpenClaim := { program := "ytbknpflbafjblaa", sum := "431a444658176f508bcfb2fa968fd94e07479d8cf5bb12581559385d293b2305", func := "loop.example/g01355/laws.FnExactCountPasch", spec := "fnExactCountPasch", unfollowed := true, recurses := true, apart := false }
def FnExactCountPaschSaid : Prop := fnExactCountPaschRow.holds Try.pinned (OpenSpec.ofChange fnExactCountPaschSpec)

/-- ITS FALSE NEIGHBOUR: 'it returns false'. Refute it at one input. -/
def fnExactCountPaschWrong : ChangeSpec := { name := "fnExactCountPasch", fn := fun _ => fun
  | [d] => { results := [.lit (.bool false)], args := [d] }
  | _ => none }
def FnExactCountPaschWrongFalsely : Prop := fnExactCountPaschRow.holds Try.pinned (OpenSpec.ofChange fnExactCountPaschWrong)

/-- 'laws.FnExactMostIndependent': WHATEVER THE INPUT: true; the input reads as it did. -/
def fnExactMostIndependentSpec : ChangeSpec := { name := "fnExactMostIndependent", fn := fun _ => fun
  | [d] => { results := [.lit (.bool true)], args := [d] }
  | _ => none }
def fnExactMostIndependentRow : OpenClaim := { program := "ytbknpflbafjblaa", sum := "431a444658176f508bcfb2fa968fd94e07479d8cf5bb12581559385d293b2305", func := "loop.example/g01355/laws.FnExactMostIndependent", spec := "fnExactMostIndependent", unfollowed := true, recurses := true, apart := false }
def FnExactMostIndependentSaid : Prop := fnExactMostIndependentRow.holds Try.pinned (OpenSpec.ofChange fnExactMostIndependentSpec)

/-- ITS FALSE NEIGHBOUR: 'it returns false'. Refute it at one input. -/
def fnExactMostIndependentWrong : ChangeSpec := { name := "fnExactMostIndependent", fn := fun _ => fun
  | [d] => { results := [.lit (.bool false)], args := [d] }
  | _ => none }
def FnExactMostIndependentWrongFalsely : Prop := fnExactMostIndependentRow.holds Try.pinned (OpenSpec.ofChange fnExactMostIndependentWrong)

/-- 'laws.FnExactFirstColouring': WHATEVER THE INPUT: true; the input reads as it did. -/
def fnExactFirstColouringSpec : ChangeSpec := { name := "fnExactFirstColouring", fn := fun _ => fun
  | [d1, d2] => { results := [.lit (.bool true)], args := [d1, d2] }
  | _ => none }
def fnExactFirstColouringRow : OpenClaim := { program := "ytbknpflbafjblaa", sum := "431a444658176f508bcfb2fa968fd94e07479d8cf5bb12581559385d293b2305", func := "loop.example/g01355/laws.FnExactFirstColouring", spec := "fnExactFirstColouring", recurses := true, apart := false }
def FnExactFirstColouringSaid : Prop := fnExactFirstColouringRow.holds Try.pinned (OpenSpec.ofChange fnExactFirstColouringSpec)

/-- ITS FALSE NEIGHBOUR: 'it returns false'. Refute it at one input. -/
def fnExactFirstColouringWrong : ChangeSpec := { name := "fnExactFirstColouring", fn := fun _ => fun
  | [d1, d2] => { results := [.lit (.bool false)], args := [d1, d2] }
  | _ => none }
def FnExactFirstColouringWrongFalsely : Prop := fnExactFirstColouringRow.holds Try.pinned (OpenSpec.ofChange fnExactFirstColouringWrong)

/-- 'laws.FnExactFirstStrict': WHATEVER THE INPUT: true; the input reads as it did. -/
def fnExactFirstStrictSpec : ChangeSpec := { name := "fnExactFirstStrict", fn := fun _ => fun
  | [d1, d2] => { results := [.lit (.bool true)], args := [d1, d2] }
  | _ => none }
def fnExactFirstStrictRow : OpenClaim := { program := "ytbknpflbafjblaa", sum := "431a444658176f508bcfb2fa968fd94e07479d8cf5bb12581559385d293b2305", func := "loop.example/g01355/laws.FnExactFirstStrict", spec := "fnExactFirstStrict", recurses := true, apart := false }
def FnExactFirstStrictSaid : Prop := fnExactFirstStrictRow.holds Try.pinned (OpenSpec.ofChange fnExactFirstStrictSpec)

/-- ITS FALSE NEIGHBOUR: 'it returns false'. Refute it at one input. -/
def fnExactFirstStrictWrong : ChangeSpec := { name := "fnExactFirstStrict", fn := fun _ => fun
  | [d1, d2] => { results := [.lit (.bool false)], args := [d1, d2] }
  | _ => none }
def FnExactFirstStrictWrongFalsely : Prop := fnExactFirstStrictRow.holds Try.pinned (OpenSpec.ofChange fnExactFirstStrictWrong)

/-- 'laws.FnExactSystemAt': WHATEVER THE INPUT: true; the input reads as it did. -/
def fnExactSystemAtSpec : ChangeSpec := { name := "fnExactSystemAt", fn := fun _ => fun
  | [d1, d2] => { results := [.lit (.bool true)], args := [d1, d2] }
  | _ => none }
def fnExactSystemAtRow : OpenClaim := { program := "ytbknpflbafjblaa", sum := "431a444658176f508bcfb2fa968fd94e07479d8cf5bb12581559385d293b2305", func := "loop.example/g01355/laws.FnExactSystemAt", spec := "fnExactSystemAt", unfollowed := true, recurses := true, apart := false }
def FnExactSystemAtSaid : Prop := fnExactSystemAtRow.holds Try.pinned (OpenSpec.ofChange fnExactSystemAtSpec)

/-- ITS FALSE NEIGHBOUR: 'it returns false'. Refute it at one input. -/
def fnExactSystemAtWrong : ChangeSpec := { name := "fnExactSystemAt", fn := fun _ => fun
  | [d1, d2] => { results := [.lit (.bool false)], args := [d1, d2] }
  | _ => none }
def FnExactSystemAtWrongFalsely : Prop := fnExactSystemAtRow.holds Try.pinned (OpenSpec.ofChange fnExactSystemAtWrong)

/-- 'laws.FnExactFillSystem': WHATEVER THE INPUT: true; the input reads as it did. -/
def fnExactFillSystemSpec : ChangeSpec := { name := "fnExactFillSystem", fn := fun _ => fun
  | [d] => { results := [.lit (.bool true)], args := [d] }
  | _ => none }
def fnExactFillSystemRow : OpenClaim := { program := "ytbknpflbafjblaa", sum := "431a444658176f508bcfb2fa968fd94e07479d8cf5bb12581559385d293b2305", func := "loop.example/g01355/laws.FnExactFillSystem", spec := "fnExactFillSystem", unfollowed := true, recurses := true, apart := false }
def FnExactFillSystemSaid : Prop := fnExactFillSystemRow.holds Try.pinned (OpenSpec.ofChange fnExactFillSystemSpec)

/-- ITS FALSE NEIGHBOUR: 'it returns false'. Refute it at one input. -/
def fnExactFillSystemWrong : ChangeSpec := { name := "fnExactFillSystem", fn := fun _ => fun
  | [d] => { results := [.lit (.bool false)], args := [d] }
  | _ => none }
def FnExactFillSystemWrongFalsely : Prop := fnExactFillSystemRow.holds Try.pinned (OpenSpec.ofChange fnExactFillSystemWrong)

/-- 'laws.FnExactCountCompletions': WHATEVER THE INPUT: true; the input reads as it did. -/
def fnExactCountCompletionsSpec : ChangeSpec := { name := "fnExactCountCompletions", fn := fun _ => fun
  | [d] => { results := [.lit (.bool true)], args := [d] }
  | _ => none }
def fnExactCountCompletionsRow : OpenClaim := { program := "ytbknpflbafjblaa", sum := "431a444658176f508bcfb2fa968fd94e07479d8cf5bb12581559385d293b2305", func := "loop.example/g01355/laws.FnExactCountCompletions", spec := "fnExactCountCompletions", unfollowed := true, recurses := true, apart := false }
def FnExactCountCompletionsSaid : Prop := fnExactCountCompletionsRow.holds Try.pinned (OpenSpec.ofChange fnExactCountCompletionsSpec)

/-- ITS FALSE NEIGHBOUR: 'it returns false'. Refute it at one input. -/
def fnExactCountCompletionsWrong : ChangeSpec := { name := "fnExactCountCompletions", fn := fun _ => fun
  | [d] => { results := [.lit (.bool false)], args := [d] }
  | _ => none }
def FnExactCountCompletionsWrongFalsely : Prop := fnExactCountCompletionsRow.holds Try.pinned (OpenSpec.ofChange fnExactCountCompletionsWrong)

/- THE SECOND FORM. 'bulk': how many values and letters a reading holds, each counted each time it is reached (what is shared counts as often as it is met; a slice's spare places count too). A statement '..UptoSaid' is the law's where the arguments, and the package variables that the reading takes, are together of bulk at most 1048576: NARROWER than '..Said'. Prove '..Said' where nothing that the law and all that it calls make is longer than what came in: it says more and counts as full. Else prove '..UptoSaid'. A law counts once. -/
mutual
def uptoBulk {H : Type} : DataW H → Nat
  | .lit (.string bytes) => bytes.length + 1
  | .lit _ => 1
  | .nil => 1
  | .ptr d => uptoBulk d + 1
  | .slice elems spare => uptoBulkAll elems + uptoBulkAll spare + 1
  | .agg parts => uptoBulkAll parts + 1
  | .iface _ d => uptoBulk d + 1
  | .map entries => uptoBulkEntries entries + 1
  | .held _ => 1
def uptoBulkAll {H : Type} : List (DataW H) → Nat
  | [] => 0
  | d :: r => uptoBulk d + uptoBulkAll r
def uptoBulkEntries {H : Type} : List (Lit × DataW H) → Nat
  | [] => 0
  | x :: r => uptoBulkEntry x + uptoBulkEntries r
def uptoBulkEntry {H : Type} : Lit × DataW H → Nat
  | (.string bytes, d) => bytes.length + uptoBulk d + 1
  | (_, d) => uptoBulk d + 1
 end
def uptoSmall : (H : Type) → List (DataW H) → Bool := fun _ ds => decide (uptoBulkAll ds ≤ 1048576)
def OpenSpec.upto (s : _root_.Go.ChangeSpec) : _root_.Go.OpenSpec := { _root_.Go.OpenSpec.ofChange s with cond := some uptoSmall }

/-- 'laws.FnExactRankModulo', WHERE WHAT IT READS IS OF BULK AT MOST 1048576: true; the input reads as it did. -/
def fnExactRankModuloUptoRow : OpenClaim := { program := "ytbknpflbafjblaa", sum := "431a444658176f508bcfb2fa968fd94e07479d8cf5bb12581559385d293b2305", func := "loop.example/g01355/laws.FnExactRankModulo", spec := "fnExactRankModulo", unfollowed := true, recurses := true, apart := false, narrowed := true }
def FnExactRankModuloUptoSaid : Prop := fnExactRankModuloUptoRow.holds Try.pinned (OpenSpec.upto fnExactRankModuloSpec)

/-- 'laws.FnExactIsFamily', WHERE WHAT IT READS IS OF BULK AT MOST 1048576: true; the input reads as it did. -/
def fnExactIsFamilyUptoRow : OpenClaim := { program := "ytbknpflbafjblaa", sum := "431a444658176f508bcfb2fa968fd94e07479d8cf5bb12581559385d293b2305", func := "loop.example/g01355/laws.FnExactIsFamily", spec := "fnExactIsFamily", unfollowed := true, recurses := true, apart := false, narrowed := true }
def FnExactIsFamilyUptoSaid : Prop := fnExactIsFamilyUptoRow.holds Try.pinned (OpenSpec.upto fnExactIsFamilySpec)

/-- 'laws.FnExactIsWord', WHERE WHAT IT READS IS OF BULK AT MOST 1048576: true; the input reads as it did. -/
def fnExactIsWordUptoRow : OpenClaim := { program := "ytbknpflbafjblaa", sum := "431a444658176f508bcfb2fa968fd94e07479d8cf5bb12581559385d293b2305", func := "loop.example/g01355/laws.FnExactIsWord", spec := "fnExactIsWord", apart := false, narrowed := true }
def FnExactIsWordUptoSaid : Prop := fnExactIsWordUptoRow.holds Try.pinned (OpenSpec.upto fnExactIsWordSpec)

/-- 'laws.FnExactWordsByWeight', WHERE WHAT IT READS IS OF BULK AT MOST 1048576: true; the input reads as it did. -/
def fnExactWordsByWeightUptoRow : OpenClaim := { program := "ytbknpflbafjblaa", sum := "431a444658176f508bcfb2fa968fd94e07479d8cf5bb12581559385d293b2305", func := "loop.example/g01355/laws.FnExactWordsByWeight", spec := "fnExactWordsByWeight", apart := false, narrowed := true }
def FnExactWordsByWeightUptoSaid : Prop := fnExactWordsByWeightUptoRow.holds Try.pinned (OpenSpec.upto fnExactWordsByWeightSpec)

/-- 'laws.FnExactColourNumber', WHERE WHAT IT READS IS OF BULK AT MOST 1048576: true; the input reads as it did. -/
def fnExactColourNumberUptoRow : OpenClaim := { program := "ytbknpflbafjblaa", sum := "431a444658176f508bcfb2fa968fd94e07479d8cf5bb12581559385d293b2305", func := "loop.example/g01355/laws.FnExactColourNumber", spec := "fnExactColourNumber", recurses := true, apart := false, narrowed := true }
def FnExactColourNumberUptoSaid : Prop := fnExactColourNumberUptoRow.holds Try.pinned (OpenSpec.upto fnExactColourNumberSpec)

/-- 'laws.FnExactCountPasch', WHERE WHAT IT READS IS OF BULK AT MOST 1048576: true; the input reads as it did. -/
def fnExactCountPaschUptoRow : OpenClaim := { program := "ytbknpflbafjblaa", sum := "431a444658176f508bcfb2fa968fd94e07479d8cf5bb12581559385d293b2305", func := "loop.example/g01355/laws.FnExactCountPasch", spec := "fnExactCountPasch", unfollowed := true, recurses := true, apart := false, narrowed := true }
def FnExactCountPaschUptoSaid : Prop := fnExactCountPaschUptoRow.holds Try.pinned (OpenSpec.upto fnExactCountPaschSpec)

/-- 'laws.FnExactMostIndependent', WHERE WHAT IT READS IS OF BULK AT MOST 1048576: true; the input reads as it did. -/
def fnExactMostIndependentUptoRow : OpenClaim := { program := "ytbknpflbafjblaa", sum := "431a444658176f508bcfb2fa968fd94e07479d8cf5bb12581559385d293b2305", func := "loop.example/g01355/laws.FnExactMostIndependent", spec := "fnExactMostIndependent", unfollowed := true, recurses := true, apart := false, narrowed := true }
def FnExactMostIndependentUptoSaid : Prop := fnExactMostIndependentUptoRow.holds Try.pinned (OpenSpec.upto fnExactMostIndependentSpec)

/-- 'laws.FnExactFirstColouring', WHERE WHAT IT READS IS OF BULK AT MOST 1048576: true; the input reads as it did. -/
def fnExactFirstColouringUptoRow : OpenClaim := { program := "ytbknpflbafjblaa", sum := "431a444658176f508bcfb2fa968fd94e07479d8cf5bb12581559385d293b2305", func := "loop.example/g01355/laws.FnExactFirstColouring", spec := "fnExactFirstColouring", recurses := true, apart := false, narrowed := true }
def FnExactFirstColouringUptoSaid : Prop := fnExactFirstColouringUptoRow.holds Try.pinned (OpenSpec.upto fnExactFirstColouringSpec)

/-- 'laws.FnExactFirstStrict', WHERE WHAT IT READS IS OF BULK AT MOST 1048576: true; the input reads as it did. -/
def fnExactFirstStrictUptoRow : OpenClaim := { program := "ytbknpflbafjblaa", sum := "431a444658176f508bcfb2fa968fd94e07479d8cf5bb12581559385d293b2305", func := "loop.example/g01355/laws.FnExactFirstStrict", spec := "fnExactFirstStrict", recurses := true, apart := false, narrowed := true }
def FnExactFirstStrictUptoSaid : Prop := fnExactFirstStrictUptoRow.holds Try.pinned (OpenSpec.upto fnExactFirstStrictSpec)

/-- 'laws.FnExactSystemAt', WHERE WHAT IT READS IS OF BULK AT MOST 1048576: true; the input reads as it did. -/
def fnExactSystemAtUptoRow : OpenClaim := { program := "ytbknpflbafjblaa", sum := "431a444658176f508bcfb2fa968fd94e07479d8cf5bb12581559385d293b2305", func := "loop.example/g01355/laws.FnExactSystemAt", spec := "fnExactSystemAt", unfollowed := true, recurses := true, apart := false, narrowed := true }
def FnExactSystemAtUptoSaid : Prop := fnExactSystemAtUptoRow.holds Try.pinned (OpenSpec.upto fnExactSystemAtSpec)

/-- 'laws.FnExactFillSystem', WHERE WHAT IT READS IS OF BULK AT MOST 1048576: true; the input reads as it did. -/
def fnExactFillSystemUptoRow : OpenClaim := { program := "ytbknpflbafjblaa", sum := "431a444658176f508bcfb2fa968fd94e07479d8cf5bb12581559385d293b2305", func := "loop.example/g01355/laws.FnExactFillSystem", spec := "fnExactFillSystem", unfollowed := true, recurses := true, apart := false, narrowed := true }
def FnExactFillSystemUptoSaid : Prop := fnExactFillSystemUptoRow.holds Try.pinned (OpenSpec.upto fnExactFillSystemSpec)

/-- 'laws.FnExactCountCompletions', WHERE WHAT IT READS IS OF BULK AT MOST 1048576: true; the input reads as it did. -/
def fnExactCountCompletionsUptoRow : OpenClaim := { program := "ytbknpflbafjblaa", sum := "431a444658176f508bcfb2fa968fd94e07479d8cf5bb12581559385d293b2305", func := "loop.example/g01355/laws.FnExactCountCompletions", spec := "fnExactCountCompletions", unfollowed := true, recurses := true, apart := false, narrowed := true }
def FnExactCountCompletionsUptoSaid : Prop := fnExactCountCompletionsUptoRow.holds Try.pinned (OpenSpec.upto fnExactCountCompletionsSpec)

end Rows
end Go.Proofs.Ytbknpflbafjblaa
