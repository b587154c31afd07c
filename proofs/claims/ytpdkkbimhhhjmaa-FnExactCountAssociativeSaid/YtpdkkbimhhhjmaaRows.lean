/-
  No cell of these rows narrows 'for every input' (looked for: loops, veiled, ifaces, maps, wideKeys, modest, calm, conditions, laid).
  DERIVED. THE GIVEN ROWS OF THIS SEAT. 12 by the template 'for every input the law returns true; each argument reads behind the call as it read before'; 0 by the template 'total and deterministic' (their statements: YtpdkkbimhhhjmaaTotals.lean).
  GIVEN WITH THE SEED: the statements are not yours to turn. If you find one false, say at which input.
  Laid BY PROGRAM, IN A SANDBOX (cutbox-rows.mjs): the forced cells as the released guide's own fill.sh prints them over the translation ce94c76593c9cadf… (all of the seat's roots in one cut). By AI agents, Wed Nov 11 2026. No macro, syntax, notation, axiom, sorry.
-/
import Derived.Test.YtpdkkbimhhhjmaaChecked
import GoSem.Claim
import GoSem.ClaimJoined
import GoSem.ClaimMapViews
import Derived.JoinedTies
import Derived.KernelRfl
namespace Go.Proofs.Ytpdkkbimhhhjmaa
/- THE CELL 'sum', in the pinned program and in every row, IS THE sha256 OF THE DUMP (.gsa) THAT YtpdkkbimhhhjmaaProg.lean LOADS. Nothing in Lean hashes anything: it is a label: what it is worth is what the hold of that sum in a sandbox is worth. -/
noncomputable def Try.pinned : Pinned := { name := "ytpdkkbimhhhjmaa", sum := "ce94c76593c9cadfa2096e9e839e871a610b2c61515e83c02ef1c6755fce6aa3", checked := Try.checked }
namespace Rows
def none {H : Type} : Left H := { results := [], args := [] }

/-- 'laws.FnExactCountDisjoint': WHATEVER THE INPUT: true; the input reads as it did. -/
def fnExactCountDisjointSpec : ChangeSpec := { name := "fnExactCountDisjoint", fn := fun _ => fun
  | [d1, d2] => { results := [.lit (.bool true)], args := [d1, d2] }
  | _ => none }
def fnExactCountDisjointRow : OpenClaim := { program := "ytpdkkbimhhhjmaa", sum := "ce94c76593c9cadfa2096e9e839e871a610b2c61515e83c02ef1c6755fce6aa3", func := "loop.example/g01355/laws.FnExactCountDisjoint", spec := "fnExactCountDisjoint", unfollowed := true, recurses := true, apart := false }
def FnExactCountDisjointSaid : Prop := fnExactCountDisjointRow.holds Try.pinned (OpenSpec.ofChange fnExactCountDisjointSpec)

/-- ITS FALSE NEIGHBOUR: 'it returns false'. Refute it at one input. -/
def fnExactCountDisjointWrong : ChangeSpec := { name := "fnExactCountDisjoint", fn := fun _ => fun
  | [d1, d2] => { results := [.lit (.bool false)], args := [d1, d2] }
  | _ => none }
def FnExactCountDisjointWrongFalsely : Prop := fnExactCountDisjointRow.holds Try.pinned (OpenSpec.ofChange fnExactCountDisjointWrong)

/-- 'laws.FnExactBlocksAt': WHATEVER THE INPUT: true; the input reads as it did. -/
def fnExactBlocksAtSpec : ChangeSpec := { name := "fnExactBlocksAt", fn := fun _ => fun
  | [d1, d2] => { results := [.lit (.bool true)], args := [d1, d2] }
  | _ => none }
def fnExactBlocksAtRow : OpenClaim := { program := "ytpdkkbimhhhjmaa", sum := "ce94c76593c9cadfa2096e9e839e871a610b2c61515e83c02ef1c6755fce6aa3", func := "loop.example/g01355/laws.FnExactBlocksAt", spec := "fnExactBlocksAt", unfollowed := true, recurses := true, apart := false }
def FnExactBlocksAtSaid : Prop := fnExactBlocksAtRow.holds Try.pinned (OpenSpec.ofChange fnExactBlocksAtSpec)

/-- ITS FALSE NEIGHBOUR: 'it returns false'. Refute it at one input. -/
def fnExactBlocksAtWrong : ChangeSpec := { name := "fnExactBlocksAt", fn := fun _ => fun
  | [d1, d2] => { results := [.lit (.bool false)], args := [d1, d2] }
  | _ => none }
def FnExactBlocksAtWrongFalsely : Prop := fnExactBlocksAtRow.holds Try.pinned (OpenSpec.ofChange fnExactBlocksAtWrong)

/-- 'laws.FnExactRankModulo': WHATEVER THE INPUT: true; the input reads as it did. -/
def fnExactRankModuloSpec : ChangeSpec := { name := "fnExactRankModulo", fn := fun _ => fun
  | [d1, d2] => { results := [.lit (.bool true)], args := [d1, d2] }
  | _ => none }
def fnExactRankModuloRow : OpenClaim := { program := "ytpdkkbimhhhjmaa", sum := "ce94c76593c9cadfa2096e9e839e871a610b2c61515e83c02ef1c6755fce6aa3", func := "loop.example/g01355/laws.FnExactRankModulo", spec := "fnExactRankModulo", unfollowed := true, recurses := true, apart := false }
def FnExactRankModuloSaid : Prop := fnExactRankModuloRow.holds Try.pinned (OpenSpec.ofChange fnExactRankModuloSpec)

/-- ITS FALSE NEIGHBOUR: 'it returns false'. Refute it at one input. -/
def fnExactRankModuloWrong : ChangeSpec := { name := "fnExactRankModulo", fn := fun _ => fun
  | [d1, d2] => { results := [.lit (.bool false)], args := [d1, d2] }
  | _ => none }
def FnExactRankModuloWrongFalsely : Prop := fnExactRankModuloRow.holds Try.pinned (OpenSpec.ofChange fnExactRankModuloWrong)

/-- 'laws.FnExactLoopProduct': WHATEVER THE INPUT: true; the input reads as it did. -/
def fnExactLoopProductSpec : ChangeSpec := { name := "fnExactLoopProduct", fn := fun _ => fun
  | [d1, d2, d3] => { results := [.lit (.bool true)], args := [d1, d2, d3] }
  | _ => none }
def fnExactLoopProductRow : OpenClaim := { program := "ytpdkkbimhhhjmaa", sum := "ce94c76593c9cadfa2096e9e839e871a610b2c61515e83c02ef1c6755fce6aa3", func := "loop.example/g01355/laws.FnExactLoopProduct", spec := "fnExactLoopProduct", unfollowed := true, recurses := true, apart := false }
def FnExactLoopProductSaid : Prop := fnExactLoopProductRow.holds Try.pinned (OpenSpec.ofChange fnExactLoopProductSpec)

/-- ITS FALSE NEIGHBOUR: 'it returns false'. Refute it at one input. -/
def fnExactLoopProductWrong : ChangeSpec := { name := "fnExactLoopProduct", fn := fun _ => fun
  | [d1, d2, d3] => { results := [.lit (.bool false)], args := [d1, d2, d3] }
  | _ => none }
def FnExactLoopProductWrongFalsely : Prop := fnExactLoopProductRow.holds Try.pinned (OpenSpec.ofChange fnExactLoopProductWrong)

/-- 'laws.FnExactIsDistributive': WHATEVER THE INPUT: true; the input reads as it did. -/
def fnExactIsDistributiveSpec : ChangeSpec := { name := "fnExactIsDistributive", fn := fun _ => fun
  | [d] => { results := [.lit (.bool true)], args := [d] }
  | _ => none }
def fnExactIsDistributiveRow : OpenClaim := { program := "ytpdkkbimhhhjmaa", sum := "ce94c76593c9cadfa2096e9e839e871a610b2c61515e83c02ef1c6755fce6aa3", func := "loop.example/g01355/laws.FnExactIsDistributive", spec := "fnExactIsDistributive", unfollowed := true, recurses := true, apart := false }
def FnExactIsDistributiveSaid : Prop := fnExactIsDistributiveRow.holds Try.pinned (OpenSpec.ofChange fnExactIsDistributiveSpec)

/-- ITS FALSE NEIGHBOUR: 'it returns false'. Refute it at one input. -/
def fnExactIsDistributiveWrong : ChangeSpec := { name := "fnExactIsDistributive", fn := fun _ => fun
  | [d] => { results := [.lit (.bool false)], args := [d] }
  | _ => none }
def FnExactIsDistributiveWrongFalsely : Prop := fnExactIsDistributiveRow.holds Try.pinned (OpenSpec.ofChange fnExactIsDistributiveWrong)

/-- 'laws.FnExactCountPointTriples': WHATEVER THE INPUT: true; the input reads as it did. -/
def fnExactCountPointTriplesSpec : ChangeSpec := { name := "fnExactCountPointTriples", fn := fun _ => fun
  | [d] => { results := [.lit (.bool true)], args := [d] }
  | _ => none }
def fnExactCountPointTriplesRow : OpenClaim := { program := "ytpdkkbimhhhjmaa", sum := "ce94c76593c9cadfa2096e9e839e871a610b2c61515e83c02ef1c6755fce6aa3", func := "loop.example/g01355/laws.FnExactCountPointTriples", spec := "fnExactCountPointTriples", unfollowed := true, recurses := true, apart := false }
def FnExactCountPointTriplesSaid : Prop := fnExactCountPointTriplesRow.holds Try.pinned (OpenSpec.ofChange fnExactCountPointTriplesSpec)

/-- ITS FALSE NEIGHBOUR: 'it returns false'. Refute it at one input. -/
def fnExactCountPointTriplesWrong : ChangeSpec := { name := "fnExactCountPointTriples", fn := fun _ => fun
  | [d] => { results := [.lit (.bool false)], args := [d] }
  | _ => none }
def FnExactCountPointTriplesWrongFalsely : Prop := fnExactCountPointTriplesRow.holds Try.pinned (OpenSpec.ofChange fnExactCountPointTriplesWrong)

/-- 'laws.FnExactIsFamily': WHATEVER THE INPUT: true; the input reads as it did. -/
def fnExactIsFamilySpec : ChangeSpec := { name := "fnExactIsFamily", fn := fun _ => fun
  | [d] => { results := [.lit (.bool true)], args := [d] }
  | _ => none }
def fnExactIsFamilyRow : OpenClaim := { program := "ytpdkkbimhhhjmaa", sum := "ce94c76593c9cadfa2096e9e839e871a610b2c61515e83c02ef1c6755fce6aa3", func := "loop.example/g01355/laws.FnExactIsFamily", spec := "fnExactIsFamily", unfollowed := true, recurses := true, apart := false }
def FnExactIsFamilySaid : Prop := fnExactIsFamilyRow.holds Try.pinned (OpenSpec.ofChange fnExactIsFamilySpec)

/-- ITS FALSE NEIGHBOUR: 'it returns false'. Refute it at one input. -/
def fnExactIsFamilyWrong : ChangeSpec := { name := "fnExactIsFamily", fn := fun _ => fun
  | [d] => { results := [.lit (.bool false)], args := [d] }
  | _ => none }
def FnExactIsFamilyWrongFalsely : Prop := fnExactIsFamilyRow.holds Try.pinned (OpenSpec.ofChange fnExactIsFamilyWrong)

/-- 'laws.FnExactMostDisjoint': WHATEVER THE INPUT: true; the input reads as it did. -/
def fnExactMostDisjointSpec : ChangeSpec := { name := "fnExactMostDisjoint", fn := fun _ => fun
  | [d] => { results := [.lit (.bool true)], args := [d] }
  | _ => none }
def fnExactMostDisjointRow : OpenClaim := { program := "ytpdkkbimhhhjmaa", sum := "ce94c76593c9cadfa2096e9e839e871a610b2c61515e83c02ef1c6755fce6aa3", func := "loop.example/g01355/laws.FnExactMostDisjoint", spec := "fnExactMostDisjoint", unfollowed := true, recurses := true, apart := false }
def FnExactMostDisjointSaid : Prop := fnExactMostDisjointRow.holds Try.pinned (OpenSpec.ofChange fnExactMostDisjointSpec)

/-- ITS FALSE NEIGHBOUR: 'it returns false'. Refute it at one input. -/
def fnExactMostDisjointWrong : ChangeSpec := { name := "fnExactMostDisjoint", fn := fun _ => fun
  | [d] => { results := [.lit (.bool false)], args := [d] }
  | _ => none }
def FnExactMostDisjointWrongFalsely : Prop := fnExactMostDisjointRow.holds Try.pinned (OpenSpec.ofChange fnExactMostDisjointWrong)

/-- 'laws.FnExactIsClosed': WHATEVER THE INPUT: true; the input reads as it did. -/
def fnExactIsClosedSpec : ChangeSpec := { name := "fnExactIsClosed", fn := fun _ => fun
  | [d1, d2] => { results := [.lit (.bool true)], args := [d1, d2] }
  | _ => none }
def fnExactIsClosedRow : OpenClaim := { program := "ytpdkkbimhhhjmaa", sum := "ce94c76593c9cadfa2096e9e839e871a610b2c61515e83c02ef1c6755fce6aa3", func := "loop.example/g01355/laws.FnExactIsClosed", spec := "fnExactIsClosed", apart := false }
def FnExactIsClosedSaid : Prop := fnExactIsClosedRow.holds Try.pinned (OpenSpec.ofChange fnExactIsClosedSpec)

/-- ITS FALSE NEIGHBOUR: 'it returns false'. Refute it at one input. -/
def fnExactIsClosedWrong : ChangeSpec := { name := "fnExactIsClosed", fn := fun _ => fun
  | [d1, d2] => { results := [.lit (.bool false)], args := [d1, d2] }
  | _ => none }
def FnExactIsClosedWrongFalsely : Prop := fnExactIsClosedRow.holds Try.pinned (OpenSpec.ofChange fnExactIsClosedWrong)

/-- 'laws.FnExactCountClasses': WHATEVER THE INPUT: true; the input reads as it did. -/
def fnExactCountClassesSpec : ChangeSpec := { name := "fnExactCountClasses", fn := fun _ => fun
  | [d] => { results := [.lit (.bool true)], args := [d] }
  | _ => none }
def fnExactCountClassesRow : OpenClaim := { program := "ytpdkkbimhhhjmaa", sum := "ce94c76593c9cadfa2096e9e839e871a610b2c61515e83c02ef1c6755fce6aa3", func := "loop.example/g01355/laws.FnExactCountClasses", spec := "fnExactCountClasses", unfollowed := true, recurses := true, apart := false }
def FnExactCountClassesSaid : Prop := fnExactCountClassesRow.holds Try.pinned (OpenSpec.ofChange fnExactCountClassesSpec)

/-- ITS FALSE NEIGHBOUR: 'it returns false'. Refute it at one input. -/
def fnExactCountClassesWrong : ChangeSpec := { name := "fnExactCountClasses", fn := fun _ => fun
  | [d] => { results := [.lit (.bool false)], args := [d] }
  | _ => none }
def FnExactCountClassesWrongFalsely : Prop := fnExactCountClassesRow.holds Try.pinned (OpenSpec.ofChange fnExactCountClassesWrong)

/-- 'laws.FnExactCountAssociative': WHATEVER THE INPUT: true; the input reads as it did. -/
def fnExactCountAssociativeSpec : ChangeSpec := { name := "fnExactCountAssociative", fn := fun _ => fun
  | [d] => { results := [.lit (.bool true)], args := [d] }
  | _ => none }
def fnExactCountAssociativeRow : OpenClaim := { program := "ytpdkkbimhhhjmaa", sum := "ce94c76593c9cadfa2096e9e839e871a610b2c61515e83c02ef1c6755fce6aa3", func := "loop.example/g01355/laws.FnExactCountAssociative", spec := "fnExactCountAssociative", unfollowed := true, recurses := true, apart := false }
def FnExactCountAssociativeSaid : Prop := fnExactCountAssociativeRow.holds Try.pinned (OpenSpec.ofChange fnExactCountAssociativeSpec)

/-- ITS FALSE NEIGHBOUR: 'it returns false'. Refute it at one input. -/
def fnExactCountAssociativeWrong : ChangeSpec := { name := "fnExactCountAssociative", fn := fun _ => fun
  | [d] => { results := [.lit (.bool false)], args := [d] }
  | _ => none }
def FnExactCountAssociativeWrongFalsely : Prop := fnExactCountAssociativeRow.holds Try.pinned (OpenSpec.ofChange fnExactCountAssociativeWrong)

/-- 'laws.FnExactTurnOf': WHATEVER THE INPUT: true; the input reads as it did. -/
def fnExactTurnOfSpec : ChangeSpec := { name := "fnExactTurnOf", fn := fun _ => fun
  | [d1, d2] => { results := [.lit (.bool true)], args := [d1, d2] }
  | _ => none }
def fnExactTurnOfRow : OpenClaim := { program := "ytpdkkbimhhhjmaa", sum := "ce94c76593c9cadfa2096e9e839e871a610b2c61515e83c02ef1c6755fce6aa3", func := "loop.example/g01355/laws.FnExactTurnOf", spec := "fnExactTurnOf", unfollowed := true, recurses := true, apart := false }
def FnExactTurnOfSaid : Prop := fnExactTurnOfRow.holds Try.pinned (OpenSpec.ofChange fnExactTurnOfSpec)

/-- ITS FALSE NEIGHBOUR: 'it returns false'. Refute it at one input. -/
def fnExactTurnOfWrong : ChangeSpec := { name := "fnExactTurnOf", fn := fun _ => fun
  | [d1, d2] => { results := [.lit (.bool false)], args := [d1, d2] }
  | _ => none }
def FnExactTurnOfWrongFalsely : Prop := fnExactTurnOfRow.holds Try.pinned (OpenSpec.ofChange fnExactTurnOfWrong)

/- THE SECOND FORM. 'bulk': how many values and letters a reading holds, each counted each time it is reached (what is shared counts as often as it is met; a slice's spare places count too). A statement '..UptoSaid' is the law's where the arguments, and the package variables that the reading takes, are together of bulk at most 1048576: NARROWER than '..Said'. Prove '..Said' where nothing that the law and all that it calls make is longer than what came in: it says more and counts as full. Else prove '..UptoSaid'. A law counts once. -/
mutual
def uptoBulk {H : Type} : DataW H → Nat
  | .lit (.string bytes) => bytes.length + 1
  | .lit _ => 1
  | .nil => 1
  | .ptr d => uptoBulk d + 1
  | .slice elems spare => uptoBulkAll elems + uptoBulkAll spare + 1
  | .agg parts => uptoBulkAll parts + 1
  | .iface _ d => uptoBulk d + 1
  | .map entries => uptoBulkEntries entries + 1
  | .held _ => 1
def uptoBulkAll {H : Type} : List (DataW H) → Nat
  | [] => 0
  | d :: r => uptoBulk d + uptoBulkAll r
def uptoBulkEntries {H : Type} : List (Lit × DataW H) → Nat
  | [] => 0
  | x :: r => uptoBulkEntry x + uptoBulkEntries r
def uptoBulkEntry {H : Type} : Lit × DataW H → Nat
  | (.string bytes, d) => bytes.length + uptoBulk d + 1
  | (_, d) => uptoBulk d + 1
 end
def uptoSmall : (H : Type) → List (DataW H) → Bool := fun _ ds => decide (uptoBulkAll ds ≤ 1048576)
def OpenSpec.upto (s : _root_.Go.ChangeSpec) : _root_.Go.OpenSpec := { _root_.Go.OpenSpec.ofChange s with cond := some uptoSmall }

/-- 'laws.FnExactCountDisjoint', WHERE WHAT IT READS IS OF BULK AT MOST 1048576: true; the input reads as it did. -/
def fnExactCountDisjointUptoRow : OpenClaim := { program := "ytpdkkbimhhhjmaa", sum := "ce94c76593c9cadfa2096e9e839e871a610b2c61515e83c02ef1c6755fce6aa3", func := "loop.example/g01355/laws.FnExactCountDisjoint", spec := "fnExactCountDisjoint", unfollowed := true, recurses := true, apart := false, narrowed := true }
def FnExactCountDisjointUptoSaid : Prop := fnExactCountDisjointUptoRow.holds Try.pinned (OpenSpec.upto fnExactCountDisjointSpec)

/-- 'laws.FnExactBlocksAt', WHERE WHAT IT READS IS OF BULK AT MOST 1048576: true; the input reads as it did. -/
def fnExactBlocksAtUptoRow : OpenClaim := { program := "ytpdkkbimhhhjmaa", sum := "ce94c76593c9cadfa2096e9e839e871a610b2c61515e83c02ef1c6755fce6aa3", func := "loop.example/g01355/laws.FnExactBlocksAt", spec := "fnExactBlocksAt", unfollowed := true, recurses := true, apart := false, narrowed := true }
def FnExactBlocksAtUptoSaid : Prop := fnExactBlocksAtUptoRow.holds Try.pinned (OpenSpec.upto fnExactBlocksAtSpec)

/-- 'laws.FnExactRankModulo', WHERE WHAT IT READS IS OF BULK AT MOST 1048576: true; the input reads as it did. -/
def fnExactRankModuloUptoRow : OpenClaim := { program := "ytpdkkbimhhhjmaa", sum := "ce94c76593c9cadfa2096e9e839e871a610b2c61515e83c02ef1c6755fce6aa3", func := "loop.example/g01355/laws.FnExactRankModulo", spec := "fnExactRankModulo", unfollowed := true, recurses := true, apart := false, narrowed := true }
def FnExactRankModuloUptoSaid : Prop := fnExactRankModuloUptoRow.holds Try.pinned (OpenSpec.upto fnExactRankModuloSpec)

/-- 'laws.FnExactLoopProduct', WHERE WHAT IT READS IS OF BULK AT MOST 1048576: true; the input reads as it did. -/
def fnExactLoopProductUptoRow : OpenClaim := { program := "ytpdkkbimhhhjmaa", sum := "ce94c76593c9cadfa2096e9e839e871a610b2c61515e83c02ef1c6755fce6aa3", func := "loop.example/g01355/laws.FnExactLoopProduct", spec := "fnExactLoopProduct", unfollowed := true, recurses := true, apart := false, narrowed := true }
def FnExactLoopProductUptoSaid : Prop := fnExactLoopProductUptoRow.holds Try.pinned (OpenSpec.upto fnExactLoopProductSpec)

/-- 'laws.FnExactIsDistributive', WHERE WHAT IT READS IS OF BULK AT MOST 1048576: true; the input reads as it did. -/
def fnExactIsDistributiveUptoRow : OpenClaim := { program := "ytpdkkbimhhhjmaa", sum := "ce94c76593c9cadfa2096e9e839e871a610b2c61515e83c02ef1c6755fce6aa3", func := "loop.example/g01355/laws.FnExactIsDistributive", spec := "fnExactIsDistributive", unfollowed := true, recurses := true, apart := false, narrowed := true }
def FnExactIsDistributiveUptoSaid : Prop := fnExactIsDistributiveUptoRow.holds Try.pinned (OpenSpec.upto fnExactIsDistributiveSpec)

/-- 'laws.FnExactCountPointTriples', WHERE WHAT IT READS IS OF BULK AT MOST 1048576: true; the input reads as it did. -/
def fnExactCountPointTriplesUptoRow : OpenClaim := { program := "ytpdkkbimhhhjmaa", sum := "ce94c76593c9cadfa2096e9e839e871a610b2c61515e83c02ef1c6755fce6aa3", func := "loop.example/g01355/laws.FnExactCountPointTriples", spec := "fnExactCountPointTriples", unfollowed := true, recurses := true, apart := false, narrowed := true }
def FnExactCountPointTriplesUptoSaid : Prop := fnExactCountPointTriplesUptoRow.holds Try.pinned (OpenSpec.upto fnExactCountPointTriplesSpec)

/-- 'laws.FnExactIsFamily', WHERE WHAT IT READS IS OF BULK AT MOST 1048576: true; the input reads as it did. -/
def fnExactIsFamilyUptoRow : OpenClaim := { program := "ytpdkkbimhhhjmaa", sum := "ce94c76593c9cadfa2096e9e839e871a610b2c61515e83c02ef1c6755fce6aa3", func := "loop.example/g01355/laws.FnExactIsFamily", spec := "fnExactIsFamily", unfollowed := true, recurses := true, apart := false, narrowed := true }
def FnExactIsFamilyUptoSaid : Prop := fnExactIsFamilyUptoRow.holds Try.pinned (OpenSpec.upto fnExactIsFamilySpec)

/-- 'laws.FnExactMostDisjoint', WHERE WHAT IT READS IS OF BULK AT MOST 1048576: true; the input reads as it did. -/
def fnExactMostDisjointUptoRow : OpenClaim := { program := "ytpdkkbimhhhjmaa", sum := "ce94c76593c9cadfa2096e9e839e871a610b2c61515e83c02ef1c6755fce6aa3", func := "loop.example/g01355/laws.FnExactMostDisjoint", spec := "fnExactMostDisjoint", unfollowed := true, recurses := true, apart := false, narrowed := true }
def FnExactMostDisjointUptoSaid : Prop := fnExactMostDisjointUptoRow.holds Try.pinned (OpenSpec.upto fnExactMostDisjointSpec)

/-- 'laws.FnExactIsClosed', WHERE WHAT IT READS IS OF BULK AT MOST 1048576: true; the input reads as it did. -/
def fnExactIsClosedUptoRow : OpenClaim := { program := "ytpdkkbimhhhjmaa", sum := "ce94c76593c9cadfa2096e9e839e871a610b2c61515e83c02ef1c6755fce6aa3", func := "loop.example/g01355/laws.FnExactIsClosed", spec := "fnExactIsClosed", apart := false, narrowed := true }
def FnExactIsClosedUptoSaid : Prop := fnExactIsClosedUptoRow.holds Try.pinned (OpenSpec.upto fnExactIsClosedSpec)

/-- 'laws.FnExactCountClasses', WHERE WHAT IT READS IS OF BULK AT MOST 1048576: true; the input reads as it did. -/
def fnExactCountClassesUptoRow : OpenClaim := { program := "ytpdkkbimhhhjmaa", sum := "ce94c76593c9cadfa2096e9e839e871a610b2c61515e83c02ef1c6755fce6aa3", func := "loop.example/g01355/laws.FnExactCountClasses", spec := "fnExactCountClasses", unfollowed := true, recurses := true, apart := false, narrowed := true }
def FnExactCountClassesUptoSaid : Prop := fnExactCountClassesUptoRow.holds Try.pinned (OpenSpec.upto fnExactCountClassesSpec)

/-- 'laws.FnExactCountAssociative', WHERE WHAT IT READS IS OF BULK AT MOST 1048576: true; the input reads as it did. -/
def fnExactCountAssociativeUptoRow : OpenClaim := { program := "ytpdkkbimhhhjmaa", sum := "ce94c76593c9cadfa2096e9e839e871a610b2c61515e83c02ef1c6755fce6aa3", func := "loop.example/g01355/laws.FnExactCountAssociative", spec := "fnExactCountAssociative", unfollowed := true, recurses := true, apart := false, narrowed := true }
def FnExactCountAssociativeUptoSaid : Prop := fnExactCountAssociativeUptoRow.holds Try.pinned (OpenSpec.upto fnExactCountAssociativeSpec)

/-- 'laws.FnExactTurnOf', WHERE WHAT IT READS IS OF BULK AT MOST 1048576: true; the input reads as it did. -/
def fnExactTurnOfUptoRow : OpenClaim := { program := "ytpdkkbimhhhjmaa", sum := "ce94c76593c9cadfa2096e9e839e871a610b2c61515e83c02ef1c6755fce6aa3", func := "loop.example/g01355/laws.FnExactTurnOf", spec := "fnExactTurnOf", unfollowed := true, recurses := true, apart := false, narrowed := true }
def FnExactTurnOfUptoSaid : Prop := fnExactTurnOfUptoRow.holds Try.pinned (OpenSpec.upto fnExactTurnOfSpec)

end Rows
end Go.Proofs.Ytpdkkbimhhhjmaa
