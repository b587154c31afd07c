/- Plain words and lemmas on worlds that this seat's proofs share; conditions: none. -/
import Derived.Test.YtpdkkbimhhhjmaaRows
import Derived.Test.YtpdkkbimhhhjmaaP0
import Derived.WalkKit
import Derived.WalkSpells
import Derived.WalkLawsBesides
import Derived.Deep.QuietTactic
import Derived.BigQuiet
import Derived.Lib.Hide
import Derived.Handy
namespace Go.Proofs.Ytpdkkbimhhhjmaa
open Go.RowKit

theorem ret_bool {a b : Bool} (h : a = b) : Ending.returned (.bool a) = .returned (.bool b) := by rw [h]
theorem ret_ib {a b : Int} {p q : Bool} (h : a = b) (h' : p = q) : Ending.returned (.tuple #[.int .i64 a, .bool p]) = .returned (.tuple #[.int .i64 b, .bool q]) := by rw [h, h']
theorem ret_bi {a b : Int} {p q : Bool} (h' : p = q) (h : a = b) : Ending.returned (.tuple #[.bool p, .int .i64 a]) = .returned (.tuple #[.bool q, .int .i64 b]) := by rw [h, h']
theorem ret_ii {a b p q : Int} (h : a = b) (h' : p = q) : Ending.returned (.tuple #[.int .i64 a, .int .i64 p]) = .returned (.tuple #[.int .i64 b, .int .i64 q]) := by rw [h, h']
theorem ret_int {k : IntKind} {a b : Int} (h : a = b) : Ending.returned (.int k a) = .returned (.int k b) := by rw [h]
theorem below_drewN {B : Nat} {a w : World} (h : Below B a w) (n : Nat) : Below B a (w.drewN n) := ⟨h.os, h.tape, h.output, h.size, h.block⟩


/-- A world that is 'w' but for new blocks and draws. -/
noncomputable def ge (w x : World) : World := open Classical in if Below w.heap.size w x then x else w

theorem ge_below (w x : World) : Below w.heap.size w (ge w x) := by
  unfold ge; split
  · assumption
  · exact Below.refl _ _
theorem below_ge {w x : World} (h : Below w.heap.size w x) : ge w x = x := by
  unfold ge; rw [if_pos h]
@[go_sem] theorem ge_cell (w x : World) (p : Addr) (h : p.block < w.heap.size) : (ge w x).cell? p = w.cell? p := (ge_below w x).cell h
@[go_sem] theorem ge_frozen (w x : World) (p : Addr) (h : p.block < w.heap.size) : (ge w x).frozen? p = w.frozen? p := (ge_below w x).frozen h

theorem ge_ex {w x : World} (h : Below w.heap.size w x) : ∃ y, x = ge w y := ⟨x, (below_ge h).symm⟩

theorem ge_call {P : Program} {f : FuncId} {args : Array Value} {w x : World} {v : Value}
    (h : Calls P f args (ge w x) fun e w' => e = .returned v ∧ Below (ge w x).heap.size (ge w x) w') :
    Calls P f args (ge w x) fun e w' => e = .returned v ∧ ∃ y, w' = ge w y :=
  h.mono fun _ _ ⟨he, hb⟩ => ⟨he, ge_ex ((ge_below w x).trans (hb.mono (ge_below w x).size))⟩

theorem ge_call_same {P : Program} {f : FuncId} {args : Array Value} {w x : World} {v : Value}
    (h : Calls P f args (ge w x) fun e w' => e = .returned v ∧ ge w x = w') :
    Calls P f args (ge w x) fun e w' => e = .returned v ∧ ∃ y, w' = ge w y :=
  h.mono fun _ _ ⟨he, hb⟩ => ⟨he, x, hb.symm⟩
theorem ge_size (w x : World) : w.heap.size ≤ (ge w x).heap.size := (ge_below w x).size

theorem wp_region_ge_lit {P : Program} {id : Nat} {Q : Exit → Act → World → Prop} {a : Act} {w : World} {l : List Oper} (hm : P.follows .mixedOrders = true) (hB : Region.lexB .any l.toArray = true)
    (h : wpQuiet P l.toArray (fun w' => ∃ x, w' = ge w x) (fun a' => ∀ w', (∃ x, w' = ge w x) → Q .normal a' w') l a) : (Code.region id l.toArray true).wp P Q a w :=
  wp_region_quiet (C := fun w' => ∃ x, w' = ge w x) hm hB (ge_ex (w := w) ⟨rfl, rfl, rfl, Nat.le_refl _, fun _ _ => rfl⟩) (by simpa using h)

/-- The address 'A' leads to the blocks 'bs', one after another, three cells each. -/
def Bl (w : World) (A : Option Addr) (bs : List Blk) : Prop :=
  bs = [] ∨ ∃ b o, A = some ⟨b, o, none⟩ ∧ b < w.heap.size ∧ ∀ k, k < bs.length →
    w.cell? ⟨b, o + k * 3, none⟩ = some (.int .i64 (nth bs k).1) ∧ w.cell? ⟨b, o + k * 3 + 1, none⟩ = some (.int .i64 (nth bs k).2.1) ∧ w.cell? ⟨b, o + k * 3 + 2, none⟩ = some (.int .i64 (nth bs k).2.2)

theorem Bl.at_ {w : World} {A : Option Addr} {bs : List Blk} (h : Bl w A bs) {k : Nat} (hk : k < bs.length) :
    ∃ b o, A = some ⟨b, o, none⟩ ∧ b < w.heap.size ∧ w.cell? ⟨b, o + k * 3, none⟩ = some (.int .i64 (nth bs k).1) ∧ w.cell? ⟨b, o + k * 3 + 1, none⟩ = some (.int .i64 (nth bs k).2.1) ∧ w.cell? ⟨b, o + k * 3 + 2, none⟩ = some (.int .i64 (nth bs k).2.2) := by
  rcases h with rfl | ⟨b, o, rfl, hb, hc⟩
  · simp at hk
  · exact ⟨b, o, rfl, hb, hc k hk⟩

theorem Bl.below {w w' : World} {A : Option Addr} {bs : List Blk} (h : Bl w A bs) (hb : Below w.heap.size w w') : Bl w' A bs := by
  rcases h with rfl | ⟨b, o, rfl, hlt, hc⟩
  · exact .inl rfl
  · refine .inr ⟨b, o, rfl, Nat.lt_of_lt_of_le hlt hb.size, fun k hk => ?_⟩
    obtain ⟨h0, h1, h2⟩ := hc k hk
    exact ⟨(hb.cell hlt).trans h0, (hb.cell hlt).trans h1, (hb.cell hlt).trans h2⟩

/-- Block r holds a block's three numbers. -/
def Box (w : World) (r : Nat) (b : Blk) : Prop := r < w.heap.size ∧ ∀ i, i < 3 → w.cell? ⟨r, i, none⟩ = some (.int .i64 (el b i))
theorem Box.below {w w' : World} {r : Nat} {b : Blk} (h : Box w r b) (hb : Below w.heap.size w w') : Box w' r b :=
  ⟨Nat.lt_of_lt_of_le h.1 hb.size, fun i hi => (hb.cell (p := ⟨r, i, none⟩) h.1).trans (h.2 i hi)⟩
theorem Box.new (w : World) (b : Blk) (t : TypeId) : Box (w.alloc (.cells #[.int .i64 b.1, .int .i64 b.2.1, .int .i64 b.2.2] t)) w.heap.size b := by
  refine ⟨by simp, fun i hi => ?_⟩
  obtain rfl | rfl | rfl : i = 0 ∨ i = 1 ∨ i = 2 := by omega
  · simp [go_sem, el]
  · simp [go_sem, el]
  · simp [go_sem, el]
theorem below_alloc (w : World) (o : Obj) : Below w.heap.size w (w.alloc o) := (Below.refl _ _).alloc (Nat.le_refl _) _
theorem below_up {w W wr : World} (h : Below w.heap.size w W) (h' : Below W.heap.size W wr) : Below w.heap.size w wr := h.trans (h'.mono h.size)

/-- The address 'A' leads to the numbers 'xs'. -/
def Il (w : World) (A : Option Addr) (xs : List Int) : Prop :=
  xs = [] ∨ ∃ b o, A = some ⟨b, o, none⟩ ∧ b < w.heap.size ∧ ∀ k, k < xs.length → w.cell? ⟨b, o + k, none⟩ = some (.int .i64 (nthI xs k))
theorem Il.at_ {w : World} {A : Option Addr} {xs : List Int} (h : Il w A xs) {k : Nat} (hk : k < xs.length) :
    ∃ b o, A = some ⟨b, o, none⟩ ∧ b < w.heap.size ∧ w.cell? ⟨b, o + k, none⟩ = some (.int .i64 (nthI xs k)) := by
  rcases h with rfl | ⟨b, o, rfl, hb, hc⟩
  · simp at hk
  · exact ⟨b, o, rfl, hb, hc k hk⟩
theorem Il.below {w w' : World} {A : Option Addr} {xs : List Int} (h : Il w A xs) (hb : Below w.heap.size w w') : Il w' A xs := by
  rcases h with rfl | ⟨b, o, rfl, hlt, hc⟩
  · exact .inl rfl
  · exact .inr ⟨b, o, rfl, Nat.lt_of_lt_of_le hlt hb.size, fun k hk => (hb.cell hlt).trans (hc k hk)⟩
theorem Box.il {w : World} {r : Nat} {b : Blk} (h : Box w r b) : Il w (some ⟨r, 0, none⟩) (lst b) :=
  .inr ⟨r, 0, rfl, h.1, fun k hk => by rw [Nat.zero_add, lst_nth b k hk]; exact h.2 k hk⟩
theorem val_int {k : IntKind} {a b : Int} (h : a = b) : Value.int k a = Value.int k b := by rw [h]

/-- Block g is a row of cells that are not frozen. -/
def Row (w : World) (g : Nat) (t : TypeId) (cur : Array Value) : Prop := w.heap[g]? = some (.cells cur t (0, 0))
theorem Row.lt {w : World} {g : Nat} {t : TypeId} {cur : Array Value} (h : Row w g t cur) : g < w.heap.size := by
  rcases Nat.lt_or_ge g w.heap.size with hlt | hge
  · exact hlt
  · unfold Row at h; rw [Array.getElem?_eq_none hge] at h; cases h
theorem Row.cell {w : World} {g : Nat} {t : TypeId} {cur : Array Value} (h : Row w g t cur) (i : Nat) : w.cell? ⟨g, i, none⟩ = cur[i]? := cell_of_row w g i _ _ _ h
theorem Row.cellAt {w : World} {g : Nat} {t : TypeId} {cur : Array Value} (h : Row w g t cur) {i : Nat} (hi : i < cur.size) : ∃ u, w.cell? ⟨g, i, none⟩ = some u :=
  ⟨cur[i], by rw [h.cell, Array.getElem?_eq_getElem hi]⟩
theorem Row.frozen {w : World} {g : Nat} {t : TypeId} {cur : Array Value} (h : Row w g t cur) (i : Nat) : w.frozen? ⟨g, i, none⟩ = false := by
  unfold Row at h; simp [World.frozen?, h]
theorem Row.set {w : World} {g : Nat} {t : TypeId} {cur : Array Value} (h : Row w g t cur) (i : Nat) (v : Value) : Row (w.setCell ⟨g, i, none⟩ v) g t (cur.setIfInBounds i v) := by
  unfold Row at h ⊢
  simp [World.setCell, Array.getElem?_modify, h]
theorem Row.below {w w' : World} {g : Nat} {t : TypeId} {cur : Array Value} (h : Row w g t cur) (hb : Below w.heap.size w w') : Row w' g t cur := (hb.block g h.lt).trans h
theorem Row.own {w : World} {base : Nat} {e : TypeId} {size g n : Nat} {xs : List Value} (h : w.ownsRow base e size (.slice (some ⟨g, 0, none⟩) n n) n xs) : ∃ cur, Row w g e cur ∧ cur.size = n * size := by
  rcases h.2 with ⟨h', _⟩ | ⟨g', cap, cur, h', _, hg, _, _, hcs, _⟩
  · cases h'
  · simp only [Value.slice.injEq, Option.some.injEq, Addr.mk.injEq, and_true, true_and] at h'
    obtain ⟨rfl, rfl⟩ := h'
    exact ⟨cur, hg, hcs⟩
/-- The cells of 'cur' from 3 * k on are a block's. -/
def At3 (cur : Array Value) (k : Nat) (b : Blk) : Prop := cur[k * 3]? = some (.int .i64 b.1) ∧ cur[k * 3 + 1]? = some (.int .i64 b.2.1) ∧ cur[k * 3 + 2]? = some (.int .i64 b.2.2)
theorem At3.set3 {cur : Array Value} {k j : Nat} {b : Blk} (h : At3 cur j b) (hne : j ≠ k) (x y z : Value) : At3 (((cur.setIfInBounds (k * 3) x).setIfInBounds (k * 3 + 1) y).setIfInBounds (k * 3 + 2) z) j b := by
  unfold At3 at *
  simp only [Array.getElem?_setIfInBounds]
  rw [if_neg (by omega), if_neg (by omega), if_neg (by omega), if_neg (by omega), if_neg (by omega), if_neg (by omega), if_neg (by omega), if_neg (by omega), if_neg (by omega)]
  exact h
theorem At3.new {cur : Array Value} {k : Nat} (hk : k * 3 + 2 < cur.size) (b : Blk) : At3 (((cur.setIfInBounds (k * 3) (.int .i64 b.1)).setIfInBounds (k * 3 + 1) (.int .i64 b.2.1)).setIfInBounds (k * 3 + 2) (.int .i64 b.2.2)) k b := by
  unfold At3
  simp only [Array.getElem?_setIfInBounds, Array.size_setIfInBounds]
  refine ⟨?_, ?_, ?_⟩
  · rw [if_neg (by omega), if_neg (by omega), if_pos trivial, if_pos (by omega)]
  · rw [if_neg (by omega), if_pos trivial, if_pos (by omega)]
  · rw [if_pos trivial, if_pos (by omega)]
theorem Bl.row {w : World} {g : Nat} {t : TypeId} {cur : Array Value} {xs : List Blk} (h : Row w g t cur) (hc : ∀ k, k < xs.length → At3 cur k (nth xs k)) : Bl w (some ⟨g, 0, none⟩) xs :=
  .inr ⟨g, 0, rfl, h.lt, fun k hk => by
    obtain ⟨h0, h1, h2⟩ := hc k hk
    simp only [Nat.zero_add]
    exact ⟨(h.cell _).trans h0, (h.cell _).trans h1, (h.cell _).trans h2⟩⟩
theorem below_grown {w W wr : World} {row : Option Nat} (h : Below w.heap.size w W) (hg : W.grownBy wr row) (hr : ∀ k, row = some k → w.heap.size ≤ k) : Below w.heap.size w wr := h.grown hg h.size hr

/-- What was there reads as it did (two rules for a walk). -/
theorem old_cells {B : Nat} {W w1 : World} (hb : Below B W w1) : (∀ b o, b < B → w1.cell? ⟨b, o, none⟩ = W.cell? ⟨b, o, none⟩) ∧ (∀ b o, b < B → w1.frozen? ⟨b, o, none⟩ = W.frozen? ⟨b, o, none⟩) :=
  ⟨fun b o h => hb.cell (p := ⟨b, o, none⟩) h, fun b o h => hb.frozen (p := ⟨b, o, none⟩) h⟩

theorem Bl.far {w : World} {g o : Nat} {xs : List Blk} (h : Bl w (some ⟨g, o, none⟩) xs) {p : Addr} (hne : p.block ≠ g) (u : Value) : Bl (w.setCell p u) (some ⟨g, o, none⟩) xs := by
  rcases h with rfl | ⟨b, o', hA, hb, hc⟩
  · exact .inl rfl
  · simp only [Option.some.injEq, Addr.mk.injEq, and_true] at hA
    obtain ⟨rfl, rfl⟩ := hA
    refine .inr ⟨g, o, rfl, by simpa [World.setCell] using hb, fun k hk => ?_⟩
    have key : ∀ i, (w.setCell p u).cell? ⟨g, i, none⟩ = w.cell? ⟨g, i, none⟩ := fun i => World.cell?_of_block (w := w) (a := ⟨g, i, none⟩) (Below.heap_setCell w p u g (fun e => hne e.symm))
    simp only [key]
    exact hc k hk

theorem Row.far {w : World} {g : Nat} {t : TypeId} {cur : Array Value} (h : Row w g t cur) {p : Addr} (hne : p.block ≠ g) (u : Value) : Row (w.setCell p u) g t cur :=
  (Below.heap_setCell w p u g (fun e => hne e.symm)).trans h
theorem Row.new (w : World) (t : TypeId) (cur : Array Value) : Row (w.alloc (.cells cur t)) w.heap.size t cur := heap_alloc_new w _

end Go.Proofs.Ytpdkkbimhhhjmaa
