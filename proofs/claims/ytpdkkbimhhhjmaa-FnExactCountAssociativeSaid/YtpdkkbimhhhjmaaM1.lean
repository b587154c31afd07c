/- Words for a grid's block of 225 numbers; conditions: none. -/
import Derived.Test.YtpdkkbimhhhjmaaM0
import Derived.Test.YtpdkkbimhhhjmaaP1
namespace Go.Proofs.Ytpdkkbimhhhjmaa
open Go.RowKit

def gcells (G : Nat → Int) : Array Value := ((List.range 225).map fun i => Value.int .i64 (G i)).toArray
/-- Block g is a grid that holds the numbers G. -/
def Gr (w : World) (g : Nat) (G : Nat → Int) : Prop := w.heap[g]? = some (.cells (gcells G) 132 (0, 0))

theorem gcells_get (G : Nat → Int) (i : Nat) (h : i < 225) : (gcells G)[i]? = some (.int .i64 (G i)) := by
  simp [gcells, h]
theorem gcells_upd (G : Nat → Int) (i : Nat) (v : Int) : (gcells G).setIfInBounds i (.int .i64 v) = gcells (upd G i v) := by
  apply Array.ext_getElem?
  intro j
  by_cases hj : j < 225
  · rw [gcells_get _ _ hj, Array.getElem?_setIfInBounds]
    by_cases hij : i = j
    · subst hij; simp [gcells, hj, upd]
    · rw [if_neg hij, gcells_get _ _ hj]; simp [upd, Ne.symm hij]
  · simp [gcells, hj]
theorem gcells_congr {G H : Nat → Int} (h : ∀ i, i < 225 → G i = H i) : gcells G = gcells H := by
  unfold gcells
  congr 1
  apply List.map_congr_left
  intro i hi
  rw [h i (by simpa using hi)]

theorem Gr.lt {w : World} {g : Nat} {G : Nat → Int} (h : Gr w g G) : g < w.heap.size := by
  rcases Nat.lt_or_ge g w.heap.size with hlt | hge
  · exact hlt
  · unfold Gr at h; rw [Array.getElem?_eq_none hge] at h; cases h
theorem Gr.cell {w : World} {g : Nat} {G : Nat → Int} (h : Gr w g G) {i : Nat} (hi : i < 225) : w.cell? ⟨g, i, none⟩ = some (.int .i64 (G i)) := by
  unfold Gr at h
  rw [cell_of_row w g i _ _ _ h, gcells_get _ _ hi]
theorem Gr.frozen {w : World} {g : Nat} {G : Nat → Int} (h : Gr w g G) (i : Nat) : w.frozen? ⟨g, i, none⟩ = false := by
  unfold Gr at h
  simp [World.frozen?, h]
theorem Gr.set {w : World} {g : Nat} {G : Nat → Int} (h : Gr w g G) (i : Nat) (v : Int) : Gr (w.setCell ⟨g, i, none⟩ (.int .i64 v)) g (upd G i v) := by
  unfold Gr at h ⊢
  simp [World.setCell, Array.getElem?_modify, h, gcells_upd]
theorem Gr.below {w w' : World} {g : Nat} {G : Nat → Int} (h : Gr w g G) (hb : Below w.heap.size w w') : Gr w' g G := (hb.block g h.lt).trans h
theorem Gr.congr {w : World} {g : Nat} {G H : Nat → Int} (h : Gr w g G) (e : ∀ i, i < 225 → G i = H i) : Gr w g H := by
  unfold Gr at h ⊢; rw [h, gcells_congr e]

theorem grown_drewN {a w : World} {row : Option Nat} (h : a.grownBy w row) (n : Nat) : a.grownBy (w.drewN n) row := ⟨h.os, h.tape, h.output, h.size, h.block⟩
theorem grown_set {a w : World} {g : Nat} (h : a.grownBy w (some g)) (i : Nat) (v : Value) : a.grownBy (w.setCell ⟨g, i, none⟩ v) (some g) :=
  ⟨h.os, h.tape, h.output, by simpa [World.setCell] using h.size, fun k hk hne => (Below.heap_setCell _ _ _ _ (fun e => hne (by rw [e]))).trans (h.block k hk hne)⟩
theorem grown_refl (w : World) (row : Option Nat) : w.grownBy w row := ⟨rfl, rfl, rfl, Nat.le_refl _, fun _ _ _ => rfl⟩
theorem grown_trans {a b c : World} {row : Option Nat} (h : a.grownBy b row) (k : b.grownBy c row) : a.grownBy c row :=
  ⟨k.os.trans h.os, k.tape.trans h.tape, k.output.trans h.output, Nat.le_trans h.size k.size, fun i hi hne => (k.block i (Nat.lt_of_lt_of_le hi h.size) hne).trans (h.block i hi hne)⟩
theorem grown_below {a b : World} (h : Below a.heap.size a b) (row : Option Nat) : a.grownBy b row := ⟨h.os, h.tape, h.output, h.size, fun k hk _ => h.block k hk⟩
theorem Box.grown {w w' : World} {r g : Nat} {b : Blk} (h : Box w r b) (hg : w.grownBy w' (some g)) (hne : some r ≠ some g) : Box w' r b :=
  ⟨Nat.lt_of_lt_of_le h.1 hg.size, fun i hi => (World.cell?_of_block (w := w) (hg.block r h.1 hne)).trans (h.2 i hi)⟩
theorem Box.set {w : World} {r g : Nat} {b : Blk} (h : Box w r b) (hne : some r ≠ some g) (i : Nat) (v : Value) : Box (w.setCell ⟨g, i, none⟩ v) r b :=
  h.grown (grown_set (grown_refl w _) i v) hne

end Go.Proofs.Ytpdkkbimhhhjmaa
