/- Contracts of the walk through all blocks that are such; conditions: stated in each. -/
import Derived.Test.YtpdkkbimhhhjmaaW5
import Derived.Test.YtpdkkbimhhhjmaaM3
import Derived.Test.YtpdkkbimhhhjmaaP4
namespace Go.Proofs.Ytpdkkbimhhhjmaa
open Go.RowKit
set_option maxHeartbeats 400000
set_option maxRecDepth 100000
set_option linter.unusedSimpArgs false
set_option linter.unusedVariables false

theorem infoBlk' : (Try.prog.info? 72).map (fun i => (i.zero, i.size, i.bytes)) = some (some (.agg #[.int .i64 0, .int .i64 0, .int .i64 0]), 3, 24) := by kernel_rfl
/-- the cells of blocks -/
def cells3' (xs : List Blk) : List Value := xs.flatMap fun b => [.int .i64 b.1, .int .i64 b.2.1, .int .i64 b.2.2]
theorem cells3'_app (xs ys : List Blk) : cells3' (xs ++ ys) = cells3' xs ++ cells3' ys := by simp [cells3']
/-- u is a row of its own that holds the blocks -/
def OB (w : World) (base : Nat) (u : Value) (xs : List Blk) : Prop := w.ownsRow base 72 3 u xs.length (cells3' xs)
theorem OB.below {w w' : World} {base : Nat} {u : Value} {xs : List Blk} (h : OB w base u xs) (hb : Below w.heap.size w w') : OB w' base u xs := own_below h hb
theorem OB.base {w : World} {base base' : Nat} {u : Value} {xs : List Blk} (h : OB w base u xs) (hb : base' ≤ base) : OB w base' u xs := own_base h hb
theorem OB.snoc {w : World} {base : Nat} {u : Value} {xs : List Blk} {b : Blk} (h : w.ownsRow base 72 3 u (xs.length + 1) (cells3' xs ++ [.int .i64 b.1, .int .i64 b.2.1, .int .i64 b.2.2])) : OB w base u (xs ++ [b]) := by
  unfold OB; rw [cells3'_app, List.length_append]; exact h

end Go.Proofs.Ytpdkkbimhhhjmaa
