/- More words for lists in memory; conditions: none. -/
import Derived.Test.YtbiepcafnhhfgaaM1
namespace Go.Proofs.Ytbiepcafnhhfgaa
open Go.RowKit

theorem Il.row {w : World} {g : Nat} {t : TypeId} {cur : Array Value} {xs : List Int} (h : Row w g t cur) (hc : ∀ k, k < xs.length → cur[k]? = some (.int .i64 (nthI xs k))) : Il w (some ⟨g, 0, none⟩) xs :=
  .inr ⟨g, 0, rfl, h.lt, fun k hk => by rw [Nat.zero_add]; exact (h.cell _).trans (hc k hk)⟩
theorem Il.new (w : World) (xs : List Int) (t : TypeId) : Il (w.alloc (.cells (xs.map (Value.int .i64)).toArray t)) (some ⟨w.heap.size, 0, none⟩) xs :=
  Il.row (Row.new _ _ _) fun k hk => by simp [nthI, hk]

theorem Il.new1 (w : World) (o : Obj) (xs : List Int) (t : TypeId) : Il ((w.alloc o).alloc (.cells (xs.map (Value.int .i64)).toArray t)) (some ⟨w.heap.size + 1, 0, none⟩) xs := by
  have := Il.new (w.alloc o) xs t
  rw [World.size_alloc] at this
  exact this

end Go.Proofs.Ytbiepcafnhhfgaa
