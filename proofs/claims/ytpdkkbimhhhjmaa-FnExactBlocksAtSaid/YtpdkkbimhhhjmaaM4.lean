/- Rows of numbers that a call makes and writes; conditions: none. -/
import Derived.Test.YtpdkkbimhhhjmaaM3
import Derived.Test.YtpdkkbimhhhjmaaP1
namespace Go.Proofs.Ytpdkkbimhhhjmaa
open Go.RowKit

def icells (n : Nat) (F : Nat → Int) : Array Value := ((List.range n).map fun i => Value.int .i64 (F i)).toArray
theorem icells_size (n : Nat) (F : Nat → Int) : (icells n F).size = n := by simp [icells]
theorem icells_get {n i : Nat} (F : Nat → Int) (h : i < n) : (icells n F)[i]? = some (.int .i64 (F i)) := by simp [icells, h]
theorem icells_set (n i : Nat) (F : Nat → Int) (v : Int) : (icells n F).setIfInBounds i (.int .i64 v) = icells n (upd F i v) := by
  apply Array.ext_getElem?
  intro j
  rw [Array.getElem?_setIfInBounds, icells_size]
  by_cases h : i = j
  · subst h
    rw [if_pos rfl]
    by_cases hi : i < n
    · rw [if_pos hi, icells_get _ hi]; simp [upd]
    · rw [if_neg hi, Array.getElem?_eq_none (by rw [icells_size]; omega)]
  · rw [if_neg h]
    by_cases hj : j < n
    · rw [icells_get _ hj, icells_get _ hj, upd, if_neg (fun e => h e.symm)]
    · rw [Array.getElem?_eq_none (by rw [icells_size]; omega), Array.getElem?_eq_none (by rw [icells_size]; omega)]
/-- Block g holds the n numbers F 0, F 1, .. -/
def Va (w : World) (g n : Nat) (F : Nat → Int) : Prop := Row w g 2 (icells n F)
theorem Va.lt {w : World} {g n : Nat} {F : Nat → Int} (h : Va w g n F) : g < w.heap.size := Row.lt h
theorem Va.below {w w' : World} {g n : Nat} {F : Nat → Int} (h : Va w g n F) (hb : Below w.heap.size w w') : Va w' g n F := Row.below h hb
theorem Va.cell {w : World} {g n : Nat} {F : Nat → Int} (h : Va w g n F) {i : Nat} (hi : i < n) : w.cell? ⟨g, i, none⟩ = some (.int .i64 (F i)) := (Row.cell h i).trans (icells_get F hi)
theorem Va.frozen {w : World} {g n : Nat} {F : Nat → Int} (h : Va w g n F) (i : Nat) : w.frozen? ⟨g, i, none⟩ = false := Row.frozen h i
theorem Va.set {w : World} {g n : Nat} {F : Nat → Int} (h : Va w g n F) (i : Nat) (v : Int) : Va (w.setCell ⟨g, i, none⟩ (.int .i64 v)) g n (upd F i v) := by
  have := Row.set h i (.int .i64 v)
  rw [icells_set] at this
  exact this
theorem Va.ext {w : World} {g n : Nat} {F G : Nat → Int} (h : Va w g n F) (e : ∀ i, i < n → F i = G i) : Va w g n G := by
  have : icells n F = icells n G := by unfold icells; congr 1; exact List.map_congr_left fun i hi => by rw [e i (List.mem_range.1 hi)]
  unfold Va at *; rwa [← this]
theorem Va.make {w : World} {base g n : Nat} (h : w.ownsRow base 2 1 (.slice (some ⟨g, 0, none⟩) n n) n (madeCells (Value.cells (.int .i64 0)) (n * 1)).toList) : Va w g n (fun _ => 0) := by
  rcases h.2 with ⟨h', _⟩ | ⟨g', cap, cur, h', _, hg, _, _, hcs, htk⟩
  · cases h'
  · simp only [Value.slice.injEq, Option.some.injEq, Addr.mk.injEq, and_true, true_and] at h'
    obtain ⟨rfl, rfl⟩ := h'
    have : cur = icells n (fun _ => 0) := by
      apply Array.ext'
      rw [← List.take_of_length_le (l := cur.toList) (i := n * 1) (by simp [hcs]), htk]
      simp [icells, madeCells, Value.cells, Nat.mod_one]
    rw [this] at hg
    exact hg
theorem Va.own {w : World} {base g n : Nat} {F : Nat → Int} (h : Va w g n F) (hb : base ≤ g) (hn : n ≤ maxLen) : w.ownsRow base 2 1 (.slice (some ⟨g, 0, none⟩) n n) n (((List.range n).map F).map (Value.int .i64)) := by
  refine ⟨by simp, .inr ⟨g, n, icells n F, rfl, hb, h, Nat.le_refl _, hn, by simp [icells], ?_⟩⟩
  rw [List.take_of_length_le (by simp [icells])]
  simp [icells]

end Go.Proofs.Ytpdkkbimhhhjmaa
