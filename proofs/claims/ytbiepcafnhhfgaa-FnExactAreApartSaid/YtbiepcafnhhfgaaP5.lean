/- Plain laws of blocks that two lists have in common. Conditions: none. -/
import Derived.Test.YtbiepcafnhhfgaaP2
namespace Go.Proofs.Ytbiepcafnhhfgaa

noncomputable def memL (xs : List Blk) (b : Blk) : Bool := open Classical in decide (∃ k, k < xs.length ∧ nth xs k = b)
theorem memL_true {xs : List Blk} {b : Blk} {k : Nat} (hk : k < xs.length) (h : nth xs k = b) : memL xs b = true := by unfold memL; simp; exact ⟨k, hk, h⟩
theorem memL_false {xs : List Blk} {b : Blk} (h : ∀ k, k < xs.length → nth xs k ≠ b) : memL xs b = false := by unfold memL; simp; exact h
/-- the blocks of the first k of xs that are in ys -/
noncomputable def comL (xs ys : List Blk) : Nat → List Blk
  | 0 => []
  | k + 1 => comL xs ys k ++ (if memL ys (nth xs k) = true then [nth xs k] else [])
theorem comL_len (xs ys : List Blk) (k : Nat) : (comL xs ys k).length ≤ k := by
  induction k with
  | zero => simp [comL]
  | succ k ih => simp only [comL]; split <;> simp <;> omega

end Go.Proofs.Ytbiepcafnhhfgaa
