/-
  No cell of these rows narrows 'for every input' (looked for: loops, veiled, ifaces, maps, wideKeys, modest, calm, conditions, laid).
  DERIVED. THE GIVEN ROWS OF THIS SEAT. 12 by the template 'for every input the law returns true; each argument reads behind the call as it read before'; 0 by the template 'total and deterministic' (their statements: YtbiepcafnhhfgaaTotals.lean).
  GIVEN WITH THE SEED: the statements are not yours to turn. If you find one false, say at which input.
  Laid BY PROGRAM, IN A SANDBOX (cutbox-rows.mjs): the forced cells as the released guide's own fill.sh prints them over the translation 740ac394f36f7d3b… (all of the seat's roots in one cut). By AI agents, Wed Nov 11 2026. No macro, syntax, notation, axiom, sorry.
-/
import Derived.Test.YtbiepcafnhhfgaaChecked
import GoSem.Claim
import GoSem.ClaimJoined
import GoSem.ClaimMapViews
import Derived.JoinedTies
import Derived.KernelRfl
namespace Go.Proofs.Ytbiepcafnhhfgaa
/- THE CELL 'sum', in the pinned program and in every row, IS THE sha256 OF THE DUMP (.gsa) THAT YtbiepcafnhhfgaaProg.lean LOADS. Nothing in Lean hashes anything: it is a label: what it is worth is what the hold of that sum in a sandbox is worth. -/
noncomputable def Try.pinned : Pinned := { name := "ytbiepcafnhhfgaa", sum := "740ac394f36f7d3b70d66026c4e813f2a2623c33b9dc3b02ab6430794167cb58", checked := Try.checked }
namespace Rows
def none {H : Type} : Left H := { results := [], args := [] }

/-- 'laws.FnExactMissingNumber': WHATEVER THE INPUT: true; the input reads as it did. -/
def fnExactMissingNumberSpec : ChangeSpec := { name := "fnExactMissingNumber", fn := fun _ => fun
  | [d] => { results := [.lit (.bool true)], args := [d] }
  | _ => none }
def fnExactMissingNumberRow : OpenClaim := { program := "ytbiepcafnhhfgaa", sum := "740ac394f36f7d3b70d66026c4e813f2a2623c33b9dc3b02ab6430794167cb58", func := "loop.example/g01355/laws.FnExactMissingNumber", spec := "fnExactMissingNumber", apart := false }
def FnExactMissingNumberSaid : Prop := fnExactMissingNumberRow.holds Try.pinned (OpenSpec.ofChange fnExactMissingNumberSpec)

/-- ITS FALSE NEIGHBOUR: 'it returns false'. Refute it at one input. -/
def fnExactMissingNumberWrong : ChangeSpec := { name := "fnExactMissingNumber", fn := fun _ => fun
  | [d] => { results := [.lit (.bool false)], args := [d] }
  | _ => none }
def FnExactMissingNumberWrongFalsely : Prop := fnExactMissingNumberRow.holds Try.pinned (OpenSpec.ofChange fnExactMissingNumberWrong)

/-- 'laws.FnExactCommonNeighbours': WHATEVER THE INPUT: true; the input reads as it did. -/
def fnExactCommonNeighboursSpec : ChangeSpec := { name := "fnExactCommonNeighbours", fn := fun _ => fun
  | [d1, d2, d3] => { results := [.lit (.bool true)], args := [d1, d2, d3] }
  | _ => none }
def fnExactCommonNeighboursRow : OpenClaim := { program := "ytbiepcafnhhfgaa", sum := "740ac394f36f7d3b70d66026c4e813f2a2623c33b9dc3b02ab6430794167cb58", func := "loop.example/g01355/laws.FnExactCommonNeighbours", spec := "fnExactCommonNeighbours", unfollowed := true, recurses := true, apart := false }
def FnExactCommonNeighboursSaid : Prop := fnExactCommonNeighboursRow.holds Try.pinned (OpenSpec.ofChange fnExactCommonNeighboursSpec)

/-- ITS FALSE NEIGHBOUR: 'it returns false'. Refute it at one input. -/
def fnExactCommonNeighboursWrong : ChangeSpec := { name := "fnExactCommonNeighbours", fn := fun _ => fun
  | [d1, d2, d3] => { results := [.lit (.bool false)], args := [d1, d2, d3] }
  | _ => none }
def FnExactCommonNeighboursWrongFalsely : Prop := fnExactCommonNeighboursRow.holds Try.pinned (OpenSpec.ofChange fnExactCommonNeighboursWrong)

/-- 'laws.FnExactIsStuck': WHATEVER THE INPUT: true; the input reads as it did. -/
def fnExactIsStuckSpec : ChangeSpec := { name := "fnExactIsStuck", fn := fun _ => fun
  | [d] => { results := [.lit (.bool true)], args := [d] }
  | _ => none }
def fnExactIsStuckRow : OpenClaim := { program := "ytbiepcafnhhfgaa", sum := "740ac394f36f7d3b70d66026c4e813f2a2623c33b9dc3b02ab6430794167cb58", func := "loop.example/g01355/laws.FnExactIsStuck", spec := "fnExactIsStuck", unfollowed := true, recurses := true, apart := false }
def FnExactIsStuckSaid : Prop := fnExactIsStuckRow.holds Try.pinned (OpenSpec.ofChange fnExactIsStuckSpec)

/-- ITS FALSE NEIGHBOUR: 'it returns false'. Refute it at one input. -/
def fnExactIsStuckWrong : ChangeSpec := { name := "fnExactIsStuck", fn := fun _ => fun
  | [d] => { results := [.lit (.bool false)], args := [d] }
  | _ => none }
def FnExactIsStuckWrongFalsely : Prop := fnExactIsStuckRow.holds Try.pinned (OpenSpec.ofChange fnExactIsStuckWrong)

/-- 'laws.FnExactAreApart': WHATEVER THE INPUT: true; the input reads as it did. -/
def fnExactAreApartSpec : ChangeSpec := { name := "fnExactAreApart", fn := fun _ => fun
  | [d1, d2] => { results := [.lit (.bool true)], args := [d1, d2] }
  | _ => none }
def fnExactAreApartRow : OpenClaim := { program := "ytbiepcafnhhfgaa", sum := "740ac394f36f7d3b70d66026c4e813f2a2623c33b9dc3b02ab6430794167cb58", func := "loop.example/g01355/laws.FnExactAreApart", spec := "fnExactAreApart", apart := false }
def FnExactAreApartSaid : Prop := fnExactAreApartRow.holds Try.pinned (OpenSpec.ofChange fnExactAreApartSpec)

/-- ITS FALSE NEIGHBOUR: 'it returns false'. Refute it at one input. -/
def fnExactAreApartWrong : ChangeSpec := { name := "fnExactAreApart", fn := fun _ => fun
  | [d1, d2] => { results := [.lit (.bool false)], args := [d1, d2] }
  | _ => none }
def FnExactAreApartWrongFalsely : Prop := fnExactAreApartRow.holds Try.pinned (OpenSpec.ofChange fnExactAreApartWrong)

/-- 'laws.FnExactCountDisjoint': WHATEVER THE INPUT: true; the input reads as it did. -/
def fnExactCountDisjointSpec : ChangeSpec := { name := "fnExactCountDisjoint", fn := fun _ => fun
  | [d1, d2] => { results := [.lit (.bool true)], args := [d1, d2] }
  | _ => none }
def fnExactCountDisjointRow : OpenClaim := { program := "ytbiepcafnhhfgaa", sum := "740ac394f36f7d3b70d66026c4e813f2a2623c33b9dc3b02ab6430794167cb58", func := "loop.example/g01355/laws.FnExactCountDisjoint", spec := "fnExactCountDisjoint", unfollowed := true, recurses := true, apart := false }
def FnExactCountDisjointSaid : Prop := fnExactCountDisjointRow.holds Try.pinned (OpenSpec.ofChange fnExactCountDisjointSpec)

/-- ITS FALSE NEIGHBOUR: 'it returns false'. Refute it at one input. -/
def fnExactCountDisjointWrong : ChangeSpec := { name := "fnExactCountDisjoint", fn := fun _ => fun
  | [d1, d2] => { results := [.lit (.bool false)], args := [d1, d2] }
  | _ => none }
def FnExactCountDisjointWrongFalsely : Prop := fnExactCountDisjointRow.holds Try.pinned (OpenSpec.ofChange fnExactCountDisjointWrong)

/-- 'laws.FnExactAreDisjoint': WHATEVER THE INPUT: true; the input reads as it did. -/
def fnExactAreDisjointSpec : ChangeSpec := { name := "fnExactAreDisjoint", fn := fun _ => fun
  | [d1, d2] => { results := [.lit (.bool true)], args := [d1, d2] }
  | _ => none }
def fnExactAreDisjointRow : OpenClaim := { program := "ytbiepcafnhhfgaa", sum := "740ac394f36f7d3b70d66026c4e813f2a2623c33b9dc3b02ab6430794167cb58", func := "loop.example/g01355/laws.FnExactAreDisjoint", spec := "fnExactAreDisjoint", apart := false }
def FnExactAreDisjointSaid : Prop := fnExactAreDisjointRow.holds Try.pinned (OpenSpec.ofChange fnExactAreDisjointSpec)

/-- ITS FALSE NEIGHBOUR: 'it returns false'. Refute it at one input. -/
def fnExactAreDisjointWrong : ChangeSpec := { name := "fnExactAreDisjoint", fn := fun _ => fun
  | [d1, d2] => { results := [.lit (.bool false)], args := [d1, d2] }
  | _ => none }
def FnExactAreDisjointWrongFalsely : Prop := fnExactAreDisjointRow.holds Try.pinned (OpenSpec.ofChange fnExactAreDisjointWrong)

/-- 'laws.FnExactSystemAt': WHATEVER THE INPUT: true; the input reads as it did. -/
def fnExactSystemAtSpec : ChangeSpec := { name := "fnExactSystemAt", fn := fun _ => fun
  | [d1, d2] => { results := [.lit (.bool true)], args := [d1, d2] }
  | _ => none }
def fnExactSystemAtRow : OpenClaim := { program := "ytbiepcafnhhfgaa", sum := "740ac394f36f7d3b70d66026c4e813f2a2623c33b9dc3b02ab6430794167cb58", func := "loop.example/g01355/laws.FnExactSystemAt", spec := "fnExactSystemAt", unfollowed := true, recurses := true, apart := false }
def FnExactSystemAtSaid : Prop := fnExactSystemAtRow.holds Try.pinned (OpenSpec.ofChange fnExactSystemAtSpec)

/-- ITS FALSE NEIGHBOUR: 'it returns false'. Refute it at one input. -/
def fnExactSystemAtWrong : ChangeSpec := { name := "fnExactSystemAt", fn := fun _ => fun
  | [d1, d2] => { results := [.lit (.bool false)], args := [d1, d2] }
  | _ => none }
def FnExactSystemAtWrongFalsely : Prop := fnExactSystemAtRow.holds Try.pinned (OpenSpec.ofChange fnExactSystemAtWrong)

/-- 'laws.FnExactBlockGraphDegrees': WHATEVER THE INPUT: true; the input reads as it did. -/
def fnExactBlockGraphDegreesSpec : ChangeSpec := { name := "fnExactBlockGraphDegrees", fn := fun _ => fun
  | [d] => { results := [.lit (.bool true)], args := [d] }
  | _ => none }
def fnExactBlockGraphDegreesRow : OpenClaim := { program := "ytbiepcafnhhfgaa", sum := "740ac394f36f7d3b70d66026c4e813f2a2623c33b9dc3b02ab6430794167cb58", func := "loop.example/g01355/laws.FnExactBlockGraphDegrees", spec := "fnExactBlockGraphDegrees", unfollowed := true, recurses := true, apart := false }
def FnExactBlockGraphDegreesSaid : Prop := fnExactBlockGraphDegreesRow.holds Try.pinned (OpenSpec.ofChange fnExactBlockGraphDegreesSpec)

/-- ITS FALSE NEIGHBOUR: 'it returns false'. Refute it at one input. -/
def fnExactBlockGraphDegreesWrong : ChangeSpec := { name := "fnExactBlockGraphDegrees", fn := fun _ => fun
  | [d] => { results := [.lit (.bool false)], args := [d] }
  | _ => none }
def FnExactBlockGraphDegreesWrongFalsely : Prop := fnExactBlockGraphDegreesRow.holds Try.pinned (OpenSpec.ofChange fnExactBlockGraphDegreesWrong)

/-- 'laws.FnExactIsClass': WHATEVER THE INPUT: true; the input reads as it did. -/
def fnExactIsClassSpec : ChangeSpec := { name := "fnExactIsClass", fn := fun _ => fun
  | [d1, d2] => { results := [.lit (.bool true)], args := [d1, d2] }
  | _ => none }
def fnExactIsClassRow : OpenClaim := { program := "ytbiepcafnhhfgaa", sum := "740ac394f36f7d3b70d66026c4e813f2a2623c33b9dc3b02ab6430794167cb58", func := "loop.example/g01355/laws.FnExactIsClass", spec := "fnExactIsClass", apart := false }
def FnExactIsClassSaid : Prop := fnExactIsClassRow.holds Try.pinned (OpenSpec.ofChange fnExactIsClassSpec)

/-- ITS FALSE NEIGHBOUR: 'it returns false'. Refute it at one input. -/
def fnExactIsClassWrong : ChangeSpec := { name := "fnExactIsClass", fn := fun _ => fun
  | [d1, d2] => { results := [.lit (.bool false)], args := [d1, d2] }
  | _ => none }
def FnExactIsClassWrongFalsely : Prop := fnExactIsClassRow.holds Try.pinned (OpenSpec.ofChange fnExactIsClassWrong)

/-- 'laws.FnExactProductOf': WHATEVER THE INPUT: true; the input reads as it did. -/
def fnExactProductOfSpec : ChangeSpec := { name := "fnExactProductOf", fn := fun _ => fun
  | [d1, d2, d3] => { results := [.lit (.bool true)], args := [d1, d2, d3] }
  | _ => none }
def fnExactProductOfRow : OpenClaim := { program := "ytbiepcafnhhfgaa", sum := "740ac394f36f7d3b70d66026c4e813f2a2623c33b9dc3b02ab6430794167cb58", func := "loop.example/g01355/laws.FnExactProductOf", spec := "fnExactProductOf", unfollowed := true, recurses := true, apart := false }
def FnExactProductOfSaid : Prop := fnExactProductOfRow.holds Try.pinned (OpenSpec.ofChange fnExactProductOfSpec)

/-- ITS FALSE NEIGHBOUR: 'it returns false'. Refute it at one input. -/
def fnExactProductOfWrong : ChangeSpec := { name := "fnExactProductOf", fn := fun _ => fun
  | [d1, d2, d3] => { results := [.lit (.bool false)], args := [d1, d2, d3] }
  | _ => none }
def FnExactProductOfWrongFalsely : Prop := fnExactProductOfRow.holds Try.pinned (OpenSpec.ofChange fnExactProductOfWrong)

/-- 'laws.FnExactMeetingBlocks': WHATEVER THE INPUT: true; the input reads as it did. -/
def fnExactMeetingBlocksSpec : ChangeSpec := { name := "fnExactMeetingBlocks", fn := fun _ => fun
  | [d1, d2] => { results := [.lit (.bool true)], args := [d1, d2] }
  | _ => none }
def fnExactMeetingBlocksRow : OpenClaim := { program := "ytbiepcafnhhfgaa", sum := "740ac394f36f7d3b70d66026c4e813f2a2623c33b9dc3b02ab6430794167cb58", func := "loop.example/g01355/laws.FnExactMeetingBlocks", spec := "fnExactMeetingBlocks", unfollowed := true, recurses := true, apart := false }
def FnExactMeetingBlocksSaid : Prop := fnExactMeetingBlocksRow.holds Try.pinned (OpenSpec.ofChange fnExactMeetingBlocksSpec)

/-- ITS FALSE NEIGHBOUR: 'it returns false'. Refute it at one input. -/
def fnExactMeetingBlocksWrong : ChangeSpec := { name := "fnExactMeetingBlocks", fn := fun _ => fun
  | [d1, d2] => { results := [.lit (.bool false)], args := [d1, d2] }
  | _ => none }
def FnExactMeetingBlocksWrongFalsely : Prop := fnExactMeetingBlocksRow.holds Try.pinned (OpenSpec.ofChange fnExactMeetingBlocksWrong)

/-- 'laws.FnExactLeaveDegrees': WHATEVER THE INPUT: true; the input reads as it did. -/
def fnExactLeaveDegreesSpec : ChangeSpec := { name := "fnExactLeaveDegrees", fn := fun _ => fun
  | [d] => { results := [.lit (.bool true)], args := [d] }
  | _ => none }
def fnExactLeaveDegreesRow : OpenClaim := { program := "ytbiepcafnhhfgaa", sum := "740ac394f36f7d3b70d66026c4e813f2a2623c33b9dc3b02ab6430794167cb58", func := "loop.example/g01355/laws.FnExactLeaveDegrees", spec := "fnExactLeaveDegrees", apart := false }
def FnExactLeaveDegreesSaid : Prop := fnExactLeaveDegreesRow.holds Try.pinned (OpenSpec.ofChange fnExactLeaveDegreesSpec)

/-- ITS FALSE NEIGHBOUR: 'it returns false'. Refute it at one input. -/
def fnExactLeaveDegreesWrong : ChangeSpec := { name := "fnExactLeaveDegrees", fn := fun _ => fun
  | [d] => { results := [.lit (.bool false)], args := [d] }
  | _ => none }
def FnExactLeaveDegreesWrongFalsely : Prop := fnExactLeaveDegreesRow.holds Try.pinned (OpenSpec.ofChange fnExactLeaveDegreesWrong)

/- THE SECOND FORM. 'bulk': how many values and letters a reading holds, each counted each time it is reached (what is shared counts as often as it is met; a slice's spare places count too). A statement '..UptoSaid' is the law's where the arguments, and the package variables that the reading takes, are together of bulk at most 1048576: NARROWER than '..Said'. Prove '..Said' where nothing that the law and all that it calls make is longer than what came in: it says more and counts as full. Else prove '..UptoSaid'. A law counts once. -/
mutual
def uptoBulk {H : Type} : DataW H → Nat
  | .lit (.string bytes) => bytes.length + 1
  | .lit _ => 1
  | .nil => 1
  | .ptr d => uptoBulk d + 1
  | .slice elems spare => uptoBulkAll elems + uptoBulkAll spare + 1
  | .agg parts => uptoBulkAll parts + 1
  | .iface _ d => uptoBulk d + 1
  | .map entries => uptoBulkEntries entries + 1
  | .held _ => 1
def uptoBulkAll {H : Type} : List (DataW H) → Nat
  | [] => 0
  | d :: r => uptoBulk d + uptoBulkAll r
def uptoBulkEntries {H : Type} : List (Lit × DataW H) → Nat
  | [] => 0
  | x :: r => uptoBulkEntry x + uptoBulkEntries r
def uptoBulkEntry {H : Type} : Lit × DataW H → Nat
  | (.string bytes, d) => bytes.length + uptoBulk d + 1
  | (_, d) => uptoBulk d + 1
 end
def uptoSmall : (H : Type) → List (DataW H) → Bool := fun _ ds => decide (uptoBulkAll ds ≤ 1048576)
def OpenSpec.upto (s : _root_.Go.ChangeSpec) : _root_.Go.OpenSpec := { _root_.Go.OpenSpec.ofChange s with cond := some uptoSmall }

/-- 'laws.FnExactMissingNumber', WHERE WHAT IT READS IS OF BULK AT MOST 1048576: true; the input reads as it did. -/
def fnExactMissingNumberUptoRow : OpenClaim := { program := "ytbiepcafnhhfgaa", sum := "740ac394f36f7d3b70d66026c4e813f2a2623c33b9dc3b02ab6430794167cb58", func := "loop.example/g01355/laws.FnExactMissingNumber", spec := "fnExactMissingNumber", apart := false, narrowed := true }
def FnExactMissingNumberUptoSaid : Prop := fnExactMissingNumberUptoRow.holds Try.pinned (OpenSpec.upto fnExactMissingNumberSpec)

/-- 'laws.FnExactCommonNeighbours', WHERE WHAT IT READS IS OF BULK AT MOST 1048576: true; the input reads as it did. -/
def fnExactCommonNeighboursUptoRow : OpenClaim := { program := "ytbiepcafnhhfgaa", sum := "740ac394f36f7d3b70d66026c4e813f2a2623c33b9dc3b02ab6430794167cb58", func := "loop.example/g01355/laws.FnExactCommonNeighbours", spec := "fnExactCommonNeighbours", unfollowed := true, recurses := true, apart := false, narrowed := true }
def FnExactCommonNeighboursUptoSaid : Prop := fnExactCommonNeighboursUptoRow.holds Try.pinned (OpenSpec.upto fnExactCommonNeighboursSpec)

/-- 'laws.FnExactIsStuck', WHERE WHAT IT READS IS OF BULK AT MOST 1048576: true; the input reads as it did. -/
def fnExactIsStuckUptoRow : OpenClaim := { program := "ytbiepcafnhhfgaa", sum := "740ac394f36f7d3b70d66026c4e813f2a2623c33b9dc3b02ab6430794167cb58", func := "loop.example/g01355/laws.FnExactIsStuck", spec := "fnExactIsStuck", unfollowed := true, recurses := true, apart := false, narrowed := true }
def FnExactIsStuckUptoSaid : Prop := fnExactIsStuckUptoRow.holds Try.pinned (OpenSpec.upto fnExactIsStuckSpec)

/-- 'laws.FnExactAreApart', WHERE WHAT IT READS IS OF BULK AT MOST 1048576: true; the input reads as it did. -/
def fnExactAreApartUptoRow : OpenClaim := { program := "ytbiepcafnhhfgaa", sum := "740ac394f36f7d3b70d66026c4e813f2a2623c33b9dc3b02ab6430794167cb58", func := "loop.example/g01355/laws.FnExactAreApart", spec := "fnExactAreApart", apart := false, narrowed := true }
def FnExactAreApartUptoSaid : Prop := fnExactAreApartUptoRow.holds Try.pinned (OpenSpec.upto fnExactAreApartSpec)

/-- 'laws.FnExactCountDisjoint', WHERE WHAT IT READS IS OF BULK AT MOST 1048576: true; the input reads as it did. -/
def fnExactCountDisjointUptoRow : OpenClaim := { program := "ytbiepcafnhhfgaa", sum := "740ac394f36f7d3b70d66026c4e813f2a2623c33b9dc3b02ab6430794167cb58", func := "loop.example/g01355/laws.FnExactCountDisjoint", spec := "fnExactCountDisjoint", unfollowed := true, recurses := true, apart := false, narrowed := true }
def FnExactCountDisjointUptoSaid : Prop := fnExactCountDisjointUptoRow.holds Try.pinned (OpenSpec.upto fnExactCountDisjointSpec)

/-- 'laws.FnExactAreDisjoint', WHERE WHAT IT READS IS OF BULK AT MOST 1048576: true; the input reads as it did. -/
def fnExactAreDisjointUptoRow : OpenClaim := { program := "ytbiepcafnhhfgaa", sum := "740ac394f36f7d3b70d66026c4e813f2a2623c33b9dc3b02ab6430794167cb58", func := "loop.example/g01355/laws.FnExactAreDisjoint", spec := "fnExactAreDisjoint", apart := false, narrowed := true }
def FnExactAreDisjointUptoSaid : Prop := fnExactAreDisjointUptoRow.holds Try.pinned (OpenSpec.upto fnExactAreDisjointSpec)

/-- 'laws.FnExactSystemAt', WHERE WHAT IT READS IS OF BULK AT MOST 1048576: true; the input reads as it did. -/
def fnExactSystemAtUptoRow : OpenClaim := { program := "ytbiepcafnhhfgaa", sum := "740ac394f36f7d3b70d66026c4e813f2a2623c33b9dc3b02ab6430794167cb58", func := "loop.example/g01355/laws.FnExactSystemAt", spec := "fnExactSystemAt", unfollowed := true, recurses := true, apart := false, narrowed := true }
def FnExactSystemAtUptoSaid : Prop := fnExactSystemAtUptoRow.holds Try.pinned (OpenSpec.upto fnExactSystemAtSpec)

/-- 'laws.FnExactBlockGraphDegrees', WHERE WHAT IT READS IS OF BULK AT MOST 1048576: true; the input reads as it did. -/
def fnExactBlockGraphDegreesUptoRow : OpenClaim := { program := "ytbiepcafnhhfgaa", sum := "740ac394f36f7d3b70d66026c4e813f2a2623c33b9dc3b02ab6430794167cb58", func := "loop.example/g01355/laws.FnExactBlockGraphDegrees", spec := "fnExactBlockGraphDegrees", unfollowed := true, recurses := true, apart := false, narrowed := true }
def FnExactBlockGraphDegreesUptoSaid : Prop := fnExactBlockGraphDegreesUptoRow.holds Try.pinned (OpenSpec.upto fnExactBlockGraphDegreesSpec)

/-- 'laws.FnExactIsClass', WHERE WHAT IT READS IS OF BULK AT MOST 1048576: true; the input reads as it did. -/
def fnExactIsClassUptoRow : OpenClaim := { program := "ytbiepcafnhhfgaa", sum := "740ac394f36f7d3b70d66026c4e813f2a2623c33b9dc3b02ab6430794167cb58", func := "loop.example/g01355/laws.FnExactIsClass", spec := "fnExactIsClass", apart := false, narrowed := true }
def FnExactIsClassUptoSaid : Prop := fnExactIsClassUptoRow.holds Try.pinned (OpenSpec.upto fnExactIsClassSpec)

/-- 'laws.FnExactProductOf', WHERE WHAT IT READS IS OF BULK AT MOST 1048576: true; the input reads as it did. -/
def fnExactProductOfUptoRow : OpenClaim := { program := "ytbiepcafnhhfgaa", sum := "740ac394f36f7d3b70d66026c4e813f2a2623c33b9dc3b02ab6430794167cb58", func := "loop.example/g01355/laws.FnExactProductOf", spec := "fnExactProductOf", unfollowed := true, recurses := true, apart := false, narrowed := true }
def FnExactProductOfUptoSaid : Prop := fnExactProductOfUptoRow.holds Try.pinned (OpenSpec.upto fnExactProductOfSpec)

/-- 'laws.FnExactMeetingBlocks', WHERE WHAT IT READS IS OF BULK AT MOST 1048576: true; the input reads as it did. -/
def fnExactMeetingBlocksUptoRow : OpenClaim := { program := "ytbiepcafnhhfgaa", sum := "740ac394f36f7d3b70d66026c4e813f2a2623c33b9dc3b02ab6430794167cb58", func := "loop.example/g01355/laws.FnExactMeetingBlocks", spec := "fnExactMeetingBlocks", unfollowed := true, recurses := true, apart := false, narrowed := true }
def FnExactMeetingBlocksUptoSaid : Prop := fnExactMeetingBlocksUptoRow.holds Try.pinned (OpenSpec.upto fnExactMeetingBlocksSpec)

/-- 'laws.FnExactLeaveDegrees', WHERE WHAT IT READS IS OF BULK AT MOST 1048576: true; the input reads as it did. -/
def fnExactLeaveDegreesUptoRow : OpenClaim := { program := "ytbiepcafnhhfgaa", sum := "740ac394f36f7d3b70d66026c4e813f2a2623c33b9dc3b02ab6430794167cb58", func := "loop.example/g01355/laws.FnExactLeaveDegrees", spec := "fnExactLeaveDegrees", apart := false, narrowed := true }
def FnExactLeaveDegreesUptoSaid : Prop := fnExactLeaveDegreesUptoRow.holds Try.pinned (OpenSpec.upto fnExactLeaveDegreesSpec)

end Rows
end Go.Proofs.Ytbiepcafnhhfgaa
