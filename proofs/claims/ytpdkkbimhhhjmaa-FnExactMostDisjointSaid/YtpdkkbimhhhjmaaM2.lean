/- More words for lists in memory; conditions: none. -/
import Derived.Test.YtpdkkbimhhhjmaaM1
namespace Go.Proofs.Ytpdkkbimhhhjmaa
open Go.RowKit

theorem Il.row {w : World} {g : Nat} {t : TypeId} {cur : Array Value} {xs : List Int} (h : Row w g t cur) (hc : ∀ k, k < xs.length → cur[k]? = some (.int .i64 (nthI xs k))) : Il w (some ⟨g, 0, none⟩) xs :=
  .inr ⟨g, 0, rfl, h.lt, fun k hk => by rw [Nat.zero_add]; exact (h.cell _).trans (hc k hk)⟩
theorem Il.new (w : World) (xs : List Int) (t : TypeId) : Il (w.alloc (.cells (xs.map (Value.int .i64)).toArray t)) (some ⟨w.heap.size, 0, none⟩) xs :=
  Il.row (Row.new _ _ _) fun k hk => by simp [nthI, hk]

theorem Il.new1 (w : World) (o : Obj) (xs : List Int) (t : TypeId) : Il ((w.alloc o).alloc (.cells (xs.map (Value.int .i64)).toArray t)) (some ⟨w.heap.size + 1, 0, none⟩) xs := by
  have := Il.new (w.alloc o) xs t
  rw [World.size_alloc] at this
  exact this

theorem own_below {w w' : World} {base : Nat} {t : TypeId} {size : Nat} {v : Value} {n : Nat} {xs : List Value} (h : w.ownsRow base t size v n xs) (hb : Below w.heap.size w w') : w'.ownsRow base t size v n xs :=
  h.kept (grown_below hb none) (by cases hv : v.ownBlock <;> simp)
theorem own_base {w : World} {base base' : Nat} {t : TypeId} {size : Nat} {v : Value} {n : Nat} {xs : List Value} (h : w.ownsRow base t size v n xs) (hb : base' ≤ base) : w.ownsRow base' t size v n xs := by
  refine ⟨h.1, ?_⟩
  rcases h.2 with h' | ⟨g, cap, cur, hv, hg, r⟩
  · exact .inl h'
  · exact .inr ⟨g, cap, cur, hv, Nat.le_trans hb hg, r⟩
theorem own_block {w : World} {base : Nat} {t : TypeId} {size : Nat} {v : Value} {n : Nat} {xs : List Value} (h : w.ownsRow base t size v n xs) : ∀ k, v.ownBlock = some k → base ≤ k := by
  intro k hk
  rcases h.2 with ⟨rfl, _⟩ | ⟨g, cap, cur, rfl, hg, _⟩
  · simp [Value.ownBlock] at hk
  · simp [Value.ownBlock] at hk; omega

theorem cells_new (w : World) (vs : List Value) (t : TypeId) : ∀ j u, vs[j]? = some u → (w.alloc (.cells vs.toArray t)).cell? ((⟨w.heap.size, 0, none⟩ : Addr).add j) = some u := by
  intro j u hj
  have : ((⟨w.heap.size, 0, none⟩ : Addr).add j) = ⟨w.heap.size, j, none⟩ := by unfold Addr.add; split <;> simp_all
  rw [this, (Row.new w t vs.toArray).cell j]
  simpa using hj
theorem Box.three {w : World} {r : Nat} {b : Blk} (h : Box w r b) : w.cell? ⟨r, 0, none⟩ = some (.int .i64 b.1) ∧ w.cell? ⟨r, 1, none⟩ = some (.int .i64 b.2.1) ∧ w.cell? ⟨r, 2, none⟩ = some (.int .i64 b.2.2) :=
  ⟨h.2 0 (by omega), h.2 1 (by omega), h.2 2 (by omega)⟩
/-- Two blocks boxed one after the other. -/
theorem Box.two (w : World) (a b : Blk) (t : TypeId) : Box ((w.alloc (.cells #[.int .i64 a.1, .int .i64 a.2.1, .int .i64 a.2.2] t)).alloc (.cells #[.int .i64 b.1, .int .i64 b.2.1, .int .i64 b.2.2] t)) w.heap.size a ∧
    Box ((w.alloc (.cells #[.int .i64 a.1, .int .i64 a.2.1, .int .i64 a.2.2] t)).alloc (.cells #[.int .i64 b.1, .int .i64 b.2.1, .int .i64 b.2.2] t)) (w.heap.size + 1) b ∧
    Below w.heap.size w ((w.alloc (.cells #[.int .i64 a.1, .int .i64 a.2.1, .int .i64 a.2.2] t)).alloc (.cells #[.int .i64 b.1, .int .i64 b.2.1, .int .i64 b.2.2] t)) := by
  refine ⟨(Box.new w a t).below (below_alloc _ _), ?_, below_up (below_alloc _ _) (below_alloc _ _)⟩
  have := Box.new (w.alloc (.cells #[.int .i64 a.1, .int .i64 a.2.1, .int .i64 a.2.2] t)) b t
  rw [World.size_alloc] at this
  exact this

/-- W is w but for what the call has made. -/
def Since (w W : World) : Prop := Below w.heap.size w W
theorem Since.below {w W wr : World} (h : Since w W) (h' : Below W.heap.size W wr) : Since w wr := below_up h h'
theorem Since.refl (w : World) : Since w w := Below.refl _ _
theorem Since.size {w W : World} (h : Since w W) : w.heap.size ≤ W.heap.size := Below.size h
def Own (w : World) (base : Nat) (t : TypeId) (size : Nat) (v : Value) (n : Nat) (xs : List Value) : Prop := w.ownsRow base t size v n xs
theorem Own.below {w w' : World} {base : Nat} {t : TypeId} {size : Nat} {v : Value} {n : Nat} {xs : List Value} (h : Own w base t size v n xs) (hb : Below w.heap.size w w') : Own w' base t size v n xs := own_below h hb
theorem Row.c2 {w : World} {g : Nat} {t : TypeId} {a b : Value} (h : Row w g t #[a, b]) : w.cell? ⟨g, 0, none⟩ = some a ∧ w.cell? ⟨g, 1, none⟩ = some b := ⟨h.cell 0, h.cell 1⟩
theorem below_drew (w : World) : Below w.heap.size w w.drew := ⟨rfl, rfl, rfl, Nat.le_refl _, fun _ _ => rfl⟩
/-- The own box of a struct parameter of two cells. -/
theorem Row.box (w : World) (t : TypeId) (a b : Value) : Row (w.alloc (.cells #[a, b] t)) w.heap.size t #[a, b] := heap_alloc_new w _

theorem own_slice {w : World} {base : Nat} {t : TypeId} {size : Nat} {v : Value} {n : Nat} {xs : List Value} (h : w.ownsRow base t size v n xs) : ∃ A c, v = .slice A n c := by
  rcases h.2 with ⟨rfl, rfl⟩ | ⟨g, cap, cur, rfl, _⟩
  · exact ⟨none, 0, rfl⟩
  · exact ⟨_, _, rfl⟩

end Go.Proofs.Ytpdkkbimhhhjmaa
