/- The contract of a function that returns a list of numbers and a code; conditions: none. -/
import Derived.Test.YtpdkkbimhhhjmaaM2
namespace Go.Proofs.Ytpdkkbimhhhjmaa
open Go.RowKit

theorem own_empty (w : World) (t : TypeId) (size : Nat) : (w.alloc (.cells #[] t)).ownsRow w.heap.size t size (.slice (some ⟨w.heap.size, 0, none⟩) 0 0) 0 [] :=
  ⟨by simp, .inr ⟨w.heap.size, 0, #[], rfl, Nat.le_refl _, heap_alloc_new w _, Nat.le_refl _, by unfold maxLen; omega, by simp, by simp⟩⟩
/-- The call returned the numbers 'ns', in a row of its own, and 'k'. -/
def LP (w : World) (ns : List Int) (k : Int) (e : Ending) (w' : World) : Prop :=
  ∃ B d, e = .returned (.tuple #[.slice B ns.length d, .int .i64 k]) ∧ Own w' w.heap.size 2 1 (.slice B ns.length d) ns.length (ns.map (Value.int .i64)) ∧ Below w.heap.size w w'
theorem LP.mk {w w' : World} {u : Value} {ns ns' : List Int} {k k' : Int} (h : w'.ownsRow w.heap.size 2 1 u ns.length (ns.map (Value.int .i64))) (hn : ns' = ns) (hk : k' = k) (hb : Below w.heap.size w w') :
    LP w ns' k' (.returned (.tuple #[u, .int .i64 k])) w' := by
  subst hn hk
  obtain ⟨B, d, rfl⟩ := own_slice h
  exact ⟨B, d, rfl, h, hb⟩
theorem LP.nil {w w' : World} {ns : List Int} {k k' : Int} (hn : ns = []) (hk : k' = k) (hb : Below w.heap.size w w') :
    LP w ns k' (.returned (.tuple #[.slice none 0 0, .int .i64 k])) w' :=
  LP.mk (ns := []) (World.ownsRow_nil _ _ _ _) hn hk hb
/-- The same of a list alone. -/
def LP1 (w : World) (ns : List Int) (e : Ending) (w' : World) : Prop :=
  ∃ B d, e = .returned (.slice B ns.length d) ∧ Own w' w.heap.size 2 1 (.slice B ns.length d) ns.length (ns.map (Value.int .i64)) ∧ Below w.heap.size w w'
theorem LP1.mk {w w' : World} {u : Value} {ns ns' : List Int} (h : w'.ownsRow w.heap.size 2 1 u ns.length (ns.map (Value.int .i64))) (hn : ns' = ns) (hb : Below w.heap.size w w') :
    LP1 w ns' (.returned u) w' := by
  subst hn
  obtain ⟨B, d, rfl⟩ := own_slice h
  exact ⟨B, d, rfl, h, hb⟩

end Go.Proofs.Ytpdkkbimhhhjmaa
