/- Plain laws and contracts, part 1; conditions: stated in each. -/
import Derived.Handy
import Derived.Test.YtbknpflbafjblaaRows
import Derived.WalkKit
import Derived.WalkSpells
import Derived.WalkLawsBesides
import Derived.Deep.QuietTactic
import Derived.BigQuiet
import Derived.Lib.Hide
import Derived.BigRegion
import Derived.Deep.RegionHeld3
import Derived.Maps.AppendAt
import Derived.Laws.Entries
set_option linter.unusedSimpArgs false
set_option linter.unusedVariables false
/- Plain definitions: blocks, systems; no program in sight. Conditions: none. -/
namespace Go.Proofs.Ytbknpflbafjblaa

abbrev Blk := Int × Int × Int
def nth (bs : List Blk) (k : Nat) : Blk := bs.getD k (0, 0, 0)

def goodB (v : Int) (b : Blk) : Bool := decide (0 ≤ b.1 ∧ b.1 < b.2.1 ∧ b.2.1 < b.2.2 ∧ b.2.2 < v)
def befB (a b : Blk) : Bool := decide (a.1 < b.1 ∨ a.1 = b.1 ∧ (a.2.1 < b.2.1 ∨ a.2.1 = b.2.1 ∧ a.2.2 < b.2.2))
def eqB (a b : Blk) : Bool := decide (a = b)
def hasB (b : Blk) (p : Int) : Bool := decide (b.1 = p ∨ b.2.1 = p ∨ b.2.2 = p)
def one (b : Bool) : Int := if b then 1 else 0
/-- how often a number of one block is one of the other -/
def comI (a b : Blk) : Int :=
  one (a.1 == b.1) + one (a.1 == b.2.1) + one (a.1 == b.2.2) + (one (a.2.1 == b.1) + one (a.2.1 == b.2.1) + one (a.2.1 == b.2.2)) + (one (a.2.2 == b.1) + one (a.2.2 == b.2.1) + one (a.2.2 == b.2.2))

def fits (bs : List Blk) : Prop := ∀ i, i < bs.length → ∀ k, k < i → comI (nth bs i) (nth bs k) ≤ 1
def areB (v : Int) (bs : List Blk) : Prop := ∀ k, k < bs.length → goodB v (nth bs k) = true ∧ (0 < k → befB (nth bs (k - 1)) (nth bs k) = true)
def isSys (v : Int) (bs : List Blk) : Prop := (3 ≤ v ∧ v ≤ 15) ∧ bs.length ≤ 35 ∧ areB v bs ∧ fits bs
noncomputable def fitsB (bs : List Blk) : Bool := open Classical in decide (fits bs)
noncomputable def isSysB (v : Int) (bs : List Blk) : Bool := open Classical in decide (isSys v bs)
theorem fitsB_iff {bs : List Blk} : fitsB bs = true ↔ fits bs := by unfold fitsB; simp
theorem isSysB_iff {v : Int} {bs : List Blk} : isSysB v bs = true ↔ isSys v bs := by unfold isSysB; simp
theorem fitsB_false {bs : List Blk} (h : ¬ fits bs) : fitsB bs = false := by unfold fitsB; simp [h]
theorem isSysB_false {v : Int} {bs : List Blk} (h : ¬ isSys v bs) : isSysB v bs = false := by unfold isSysB; simp [h]
theorem fitsB_true {bs : List Blk} (h : fits bs) : fitsB bs = true := by unfold fitsB; simp [h]
theorem isSysB_true {v : Int} {bs : List Blk} (h : isSys v bs) : isSysB v bs = true := by unfold isSysB; simp [h]

theorem one_bd (b : Bool) : 0 ≤ one b ∧ one b ≤ 1 := by cases b <;> simp [one]
theorem comI_bd (a b : Blk) : 0 ≤ comI a b ∧ comI a b ≤ 9 := by
  unfold comI
  have := one_bd (a.1 == b.1); have := one_bd (a.1 == b.2.1); have := one_bd (a.1 == b.2.2)
  have := one_bd (a.2.1 == b.1); have := one_bd (a.2.1 == b.2.1); have := one_bd (a.2.1 == b.2.2)
  have := one_bd (a.2.2 == b.1); have := one_bd (a.2.2 == b.2.1); have := one_bd (a.2.2 == b.2.2)
  omega

def cmpI (a b : Int) : Int := if a < b then -1 else if b < a then 1 else 0
def cmpB (a b : Blk) : Int := if a.1 < b.1 then -1 else if b.1 < a.1 then 1 else if a.2.1 < b.2.1 then -1 else if b.2.1 < a.2.1 then 1 else if a.2.2 < b.2.2 then -1 else if b.2.2 < a.2.2 then 1 else 0
theorem cmpB_bef (a b : Blk) : decide (cmpB a b ≥ 0) = !befB a b := by
  unfold cmpB befB
  rw [Bool.eq_iff_iff]
  simp only [decide_eq_true_eq, Bool.not_eq_true', decide_eq_false_iff_not]
  (repeat' split) <;> omega
theorem cmpB_bd (a b : Blk) : -1 ≤ cmpB a b ∧ cmpB a b ≤ 1 := by
  unfold cmpB; (repeat' split) <;> omega

/-- a block's number at a place -/
def el (b : Blk) (i : Nat) : Int := if i = 0 then b.1 else if i = 1 then b.2.1 else b.2.2
/-- 'comI' after n of the nine tests -/
def comN (a b : Blk) : Nat → Int
  | 0 => 0
  | n + 1 => comN a b n + one (el a (n / 3) == el b (n % 3))
theorem comN_nine (a b : Blk) : comN a b 9 = comI a b := by
  simp only [comN, comI, el]; simp only [Nat.reduceDiv, Nat.reduceMod, Nat.zero_div, Nat.zero_mod, if_true, Nat.reduceEqDiff, if_false, Nat.one_ne_zero]; omega
theorem comN_bd (a b : Blk) (n : Nat) : 0 ≤ comN a b n ∧ comN a b n ≤ n := by
  induction n with
  | zero => simp [comN]
  | succ n ih => have := one_bd (el a (n / 3) == el b (n % 3)); simp only [comN]; omega

theorem comN_step (a b : Blk) (k j : Nat) (hj : j < 3) : comN a b (3 * k + (j + 1)) = comN a b (3 * k + j) + one (el a k == el b j) := by
  show comN a b (3 * k + j + 1) = _
  rw [comN, show (3 * k + j) / 3 = k by omega, show (3 * k + j) % 3 = j by omega]

/-! lists of numbers -/
def nthI (xs : List Int) (k : Nat) : Int := xs.getD k 0
def risesI (xs : List Int) (n : Int) : Prop := ∀ k, k < xs.length → (0 ≤ nthI xs k ∧ nthI xs k ≤ n - 1) ∧ (0 < k → nthI xs (k - 1) < nthI xs k)
noncomputable def risesB (xs : List Int) (n : Int) : Bool := open Classical in decide (risesI xs n)
theorem risesB_iff {xs : List Int} {n : Int} : risesB xs n = true ↔ risesI xs n := by unfold risesB; simp
theorem risesB_true {xs : List Int} {n : Int} (h : risesI xs n) : risesB xs n = true := by unfold risesB; simp [h]
theorem risesB_false {xs : List Int} {n : Int} (h : ¬ risesI xs n) : risesB xs n = false := by unfold risesB; simp [h]
def cmpL : List Int → List Int → Int
  | [], [] => 0
  | [], _ :: _ => -1
  | _ :: _, [] => 1
  | x :: xs, y :: ys => if x < y then -1 else if y < x then 1 else cmpL xs ys
theorem cmpL_bd (xs : List Int) : ∀ ys, -1 ≤ cmpL xs ys ∧ cmpL xs ys ≤ 1 := by
  induction xs with
  | nil => intro ys; cases ys <;> simp [cmpL]
  | cons x xs ih => intro ys; cases ys with
    | nil => simp [cmpL]
    | cons y ys => have := ih ys; simp only [cmpL]; (repeat' split) <;> omega
theorem drop_cons {xs : List Int} {k : Nat} (h : k < xs.length) : xs.drop k = nthI xs k :: xs.drop (k + 1) := by
  rw [List.drop_eq_getElem_cons h]; simp [nthI, h]
def lst (b : Blk) : List Int := [b.1, b.2.1, b.2.2]
theorem lst_len (b : Blk) : (lst b).length = 3 := rfl
theorem lst_nth (b : Blk) (i : Nat) (h : i < 3) : nthI (lst b) i = el b i := by
  obtain rfl | rfl | rfl : i = 0 ∨ i = 1 ∨ i = 2 := by omega
  all_goals rfl
theorem cmpL_lst (a b : Blk) : cmpL (lst a) (lst b) = cmpB a b := rfl
theorem risesB_lst (b : Blk) (v : Int) : risesB (lst b) v = goodB v b := by
  rw [Bool.eq_iff_iff, risesB_iff]
  unfold risesI goodB
  simp only [decide_eq_true_eq]
  constructor
  · intro h
    have h0 := h 0 (by simp [lst]); have h1 := h 1 (by simp [lst]); have h2 := h 2 (by simp [lst])
    simp [nthI, lst] at h0 h1 h2
    omega
  · intro h k hk
    have hk : k < 3 := hk
    obtain rfl | rfl | rfl : k = 0 ∨ k = 1 ∨ k = 2 := by omega
    all_goals simp [nthI, lst]; omega

/-- the first place of a number in a list from a place on, or -1 -/
def idxFrom (xs : List Int) (x : Int) : Nat → Nat → Int
  | 0, _ => -1
  | n + 1, k => if x = nthI xs k then k else idxFrom xs x n (k + 1)
def idxI (xs : List Int) (x : Int) : Int := idxFrom xs x xs.length 0
theorem idxFrom_bd (xs : List Int) (x : Int) : ∀ n k, -1 ≤ idxFrom xs x n k ∧ idxFrom xs x n k < k + n + 1 := by
  intro n
  induction n with
  | zero => intro k; simp [idxFrom]; omega
  | succ n ih => intro k; have := ih (k + 1); simp only [idxFrom]; split <;> omega

/-- the numbers of the blocks that are such, among the first k -/
def numsN (p : Blk → Bool) (bs : List Blk) : Nat → List Int
  | 0 => []
  | k + 1 => numsN p bs k ++ (if p (nth bs k) then [(k : Int)] else [])
def nums (p : Blk → Bool) (bs : List Blk) : List Int := numsN p bs bs.length
theorem numsN_len (p : Blk → Bool) (bs : List Blk) (k : Nat) : (numsN p bs k).length ≤ k := by
  induction k with
  | zero => simp [numsN]
  | succ k ih => simp only [numsN]; split <;> simp <;> omega
def meetB (a b : Blk) : Bool := hasB b a.1 || hasB b a.2.1 || hasB b a.2.2

end Go.Proofs.Ytbknpflbafjblaa

/- Plain words and lemmas on worlds that this seat's proofs share; conditions: none. -/
namespace Go.Proofs.Ytbknpflbafjblaa
open Go.RowKit

theorem ret_bool {a b : Bool} (h : a = b) : Ending.returned (.bool a) = .returned (.bool b) := by rw [h]
theorem ret_ib {a b : Int} {p q : Bool} (h : a = b) (h' : p = q) : Ending.returned (.tuple #[.int .i64 a, .bool p]) = .returned (.tuple #[.int .i64 b, .bool q]) := by rw [h, h']
theorem ret_bi {a b : Int} {p q : Bool} (h' : p = q) (h : a = b) : Ending.returned (.tuple #[.bool p, .int .i64 a]) = .returned (.tuple #[.bool q, .int .i64 b]) := by rw [h, h']
theorem ret_ii {a b p q : Int} (h : a = b) (h' : p = q) : Ending.returned (.tuple #[.int .i64 a, .int .i64 p]) = .returned (.tuple #[.int .i64 b, .int .i64 q]) := by rw [h, h']
theorem ret_int {k : IntKind} {a b : Int} (h : a = b) : Ending.returned (.int k a) = .returned (.int k b) := by rw [h]
theorem below_drewN {B : Nat} {a w : World} (h : Below B a w) (n : Nat) : Below B a (w.drewN n) := ⟨h.os, h.tape, h.output, h.size, h.block⟩


/-- A world that is 'w' but for new blocks and draws. -/
noncomputable def ge (w x : World) : World := open Classical in if Below w.heap.size w x then x else w

theorem ge_below (w x : World) : Below w.heap.size w (ge w x) := by
  unfold ge; split
  · assumption
  · exact Below.refl _ _
theorem below_ge {w x : World} (h : Below w.heap.size w x) : ge w x = x := by
  unfold ge; rw [if_pos h]
@[go_sem] theorem ge_cell (w x : World) (p : Addr) (h : p.block < w.heap.size) : (ge w x).cell? p = w.cell? p := (ge_below w x).cell h
@[go_sem] theorem ge_frozen (w x : World) (p : Addr) (h : p.block < w.heap.size) : (ge w x).frozen? p = w.frozen? p := (ge_below w x).frozen h

theorem ge_ex {w x : World} (h : Below w.heap.size w x) : ∃ y, x = ge w y := ⟨x, (below_ge h).symm⟩

theorem ge_call {P : Program} {f : FuncId} {args : Array Value} {w x : World} {v : Value}
    (h : Calls P f args (ge w x) fun e w' => e = .returned v ∧ Below (ge w x).heap.size (ge w x) w') :
    Calls P f args (ge w x) fun e w' => e = .returned v ∧ ∃ y, w' = ge w y :=
  h.mono fun _ _ ⟨he, hb⟩ => ⟨he, ge_ex ((ge_below w x).trans (hb.mono (ge_below w x).size))⟩

theorem ge_call_same {P : Program} {f : FuncId} {args : Array Value} {w x : World} {v : Value}
    (h : Calls P f args (ge w x) fun e w' => e = .returned v ∧ ge w x = w') :
    Calls P f args (ge w x) fun e w' => e = .returned v ∧ ∃ y, w' = ge w y :=
  h.mono fun _ _ ⟨he, hb⟩ => ⟨he, x, hb.symm⟩
theorem ge_size (w x : World) : w.heap.size ≤ (ge w x).heap.size := (ge_below w x).size

theorem wp_region_ge_lit {P : Program} {id : Nat} {Q : Exit → Act → World → Prop} {a : Act} {w : World} {l : List Oper} (hm : P.follows .mixedOrders = true) (hB : Region.lexB .any l.toArray = true)
    (h : wpQuiet P l.toArray (fun w' => ∃ x, w' = ge w x) (fun a' => ∀ w', (∃ x, w' = ge w x) → Q .normal a' w') l a) : (Code.region id l.toArray true).wp P Q a w :=
  wp_region_quiet (C := fun w' => ∃ x, w' = ge w x) hm hB (ge_ex (w := w) ⟨rfl, rfl, rfl, Nat.le_refl _, fun _ _ => rfl⟩) (by simpa using h)

/-- The address 'A' leads to the blocks 'bs', one after another, three cells each. -/
def Bl (w : World) (A : Option Addr) (bs : List Blk) : Prop :=
  bs = [] ∨ ∃ b o, A = some ⟨b, o, none⟩ ∧ b < w.heap.size ∧ ∀ k, k < bs.length →
    w.cell? ⟨b, o + k * 3, none⟩ = some (.int .i64 (nth bs k).1) ∧ w.cell? ⟨b, o + k * 3 + 1, none⟩ = some (.int .i64 (nth bs k).2.1) ∧ w.cell? ⟨b, o + k * 3 + 2, none⟩ = some (.int .i64 (nth bs k).2.2)

theorem Bl.at_ {w : World} {A : Option Addr} {bs : List Blk} (h : Bl w A bs) {k : Nat} (hk : k < bs.length) :
    ∃ b o, A = some ⟨b, o, none⟩ ∧ b < w.heap.size ∧ w.cell? ⟨b, o + k * 3, none⟩ = some (.int .i64 (nth bs k).1) ∧ w.cell? ⟨b, o + k * 3 + 1, none⟩ = some (.int .i64 (nth bs k).2.1) ∧ w.cell? ⟨b, o + k * 3 + 2, none⟩ = some (.int .i64 (nth bs k).2.2) := by
  rcases h with rfl | ⟨b, o, rfl, hb, hc⟩
  · simp at hk
  · exact ⟨b, o, rfl, hb, hc k hk⟩

theorem Bl.below {w w' : World} {A : Option Addr} {bs : List Blk} (h : Bl w A bs) (hb : Below w.heap.size w w') : Bl w' A bs := by
  rcases h with rfl | ⟨b, o, rfl, hlt, hc⟩
  · exact .inl rfl
  · refine .inr ⟨b, o, rfl, Nat.lt_of_lt_of_le hlt hb.size, fun k hk => ?_⟩
    obtain ⟨h0, h1, h2⟩ := hc k hk
    exact ⟨(hb.cell hlt).trans h0, (hb.cell hlt).trans h1, (hb.cell hlt).trans h2⟩

/-- Block r holds a block's three numbers. -/
def Box (w : World) (r : Nat) (b : Blk) : Prop := r < w.heap.size ∧ ∀ i, i < 3 → w.cell? ⟨r, i, none⟩ = some (.int .i64 (el b i))
theorem Box.below {w w' : World} {r : Nat} {b : Blk} (h : Box w r b) (hb : Below w.heap.size w w') : Box w' r b :=
  ⟨Nat.lt_of_lt_of_le h.1 hb.size, fun i hi => (hb.cell (p := ⟨r, i, none⟩) h.1).trans (h.2 i hi)⟩
theorem Box.new (w : World) (b : Blk) (t : TypeId) : Box (w.alloc (.cells #[.int .i64 b.1, .int .i64 b.2.1, .int .i64 b.2.2] t)) w.heap.size b := by
  refine ⟨by simp, fun i hi => ?_⟩
  obtain rfl | rfl | rfl : i = 0 ∨ i = 1 ∨ i = 2 := by omega
  · simp [go_sem, el]
  · simp [go_sem, el]
  · simp [go_sem, el]
theorem below_alloc (w : World) (o : Obj) : Below w.heap.size w (w.alloc o) := (Below.refl _ _).alloc (Nat.le_refl _) _
theorem below_up {w W wr : World} (h : Below w.heap.size w W) (h' : Below W.heap.size W wr) : Below w.heap.size w wr := h.trans (h'.mono h.size)

/-- The address 'A' leads to the numbers 'xs'. -/
def Il (w : World) (A : Option Addr) (xs : List Int) : Prop :=
  xs = [] ∨ ∃ b o, A = some ⟨b, o, none⟩ ∧ b < w.heap.size ∧ ∀ k, k < xs.length → w.cell? ⟨b, o + k, none⟩ = some (.int .i64 (nthI xs k))
theorem Il.at_ {w : World} {A : Option Addr} {xs : List Int} (h : Il w A xs) {k : Nat} (hk : k < xs.length) :
    ∃ b o, A = some ⟨b, o, none⟩ ∧ b < w.heap.size ∧ w.cell? ⟨b, o + k, none⟩ = some (.int .i64 (nthI xs k)) := by
  rcases h with rfl | ⟨b, o, rfl, hb, hc⟩
  · simp at hk
  · exact ⟨b, o, rfl, hb, hc k hk⟩
theorem Il.below {w w' : World} {A : Option Addr} {xs : List Int} (h : Il w A xs) (hb : Below w.heap.size w w') : Il w' A xs := by
  rcases h with rfl | ⟨b, o, rfl, hlt, hc⟩
  · exact .inl rfl
  · exact .inr ⟨b, o, rfl, Nat.lt_of_lt_of_le hlt hb.size, fun k hk => (hb.cell hlt).trans (hc k hk)⟩
theorem Box.il {w : World} {r : Nat} {b : Blk} (h : Box w r b) : Il w (some ⟨r, 0, none⟩) (lst b) :=
  .inr ⟨r, 0, rfl, h.1, fun k hk => by rw [Nat.zero_add, lst_nth b k hk]; exact h.2 k hk⟩
theorem val_int {k : IntKind} {a b : Int} (h : a = b) : Value.int k a = Value.int k b := by rw [h]

/-- Block g is a row of cells that are not frozen. -/
def Row (w : World) (g : Nat) (t : TypeId) (cur : Array Value) : Prop := w.heap[g]? = some (.cells cur t (0, 0))
theorem Row.lt {w : World} {g : Nat} {t : TypeId} {cur : Array Value} (h : Row w g t cur) : g < w.heap.size := by
  rcases Nat.lt_or_ge g w.heap.size with hlt | hge
  · exact hlt
  · unfold Row at h; rw [Array.getElem?_eq_none hge] at h; cases h
theorem Row.cell {w : World} {g : Nat} {t : TypeId} {cur : Array Value} (h : Row w g t cur) (i : Nat) : w.cell? ⟨g, i, none⟩ = cur[i]? := cell_of_row w g i _ _ _ h
theorem Row.cellAt {w : World} {g : Nat} {t : TypeId} {cur : Array Value} (h : Row w g t cur) {i : Nat} (hi : i < cur.size) : ∃ u, w.cell? ⟨g, i, none⟩ = some u :=
  ⟨cur[i], by rw [h.cell, Array.getElem?_eq_getElem hi]⟩
theorem Row.frozen {w : World} {g : Nat} {t : TypeId} {cur : Array Value} (h : Row w g t cur) (i : Nat) : w.frozen? ⟨g, i, none⟩ = false := by
  unfold Row at h; simp [World.frozen?, h]
theorem Row.set {w : World} {g : Nat} {t : TypeId} {cur : Array Value} (h : Row w g t cur) (i : Nat) (v : Value) : Row (w.setCell ⟨g, i, none⟩ v) g t (cur.setIfInBounds i v) := by
  unfold Row at h ⊢
  simp [World.setCell, Array.getElem?_modify, h]
theorem Row.below {w w' : World} {g : Nat} {t : TypeId} {cur : Array Value} (h : Row w g t cur) (hb : Below w.heap.size w w') : Row w' g t cur := (hb.block g h.lt).trans h
theorem Row.own {w : World} {base : Nat} {e : TypeId} {size g n : Nat} {xs : List Value} (h : w.ownsRow base e size (.slice (some ⟨g, 0, none⟩) n n) n xs) : ∃ cur, Row w g e cur ∧ cur.size = n * size := by
  rcases h.2 with ⟨h', _⟩ | ⟨g', cap, cur, h', _, hg, _, _, hcs, _⟩
  · cases h'
  · simp only [Value.slice.injEq, Option.some.injEq, Addr.mk.injEq, and_true, true_and] at h'
    obtain ⟨rfl, rfl⟩ := h'
    exact ⟨cur, hg, hcs⟩
/-- The cells of 'cur' from 3 * k on are a block's. -/
def At3 (cur : Array Value) (k : Nat) (b : Blk) : Prop := cur[k * 3]? = some (.int .i64 b.1) ∧ cur[k * 3 + 1]? = some (.int .i64 b.2.1) ∧ cur[k * 3 + 2]? = some (.int .i64 b.2.2)
theorem At3.set3 {cur : Array Value} {k j : Nat} {b : Blk} (h : At3 cur j b) (hne : j ≠ k) (x y z : Value) : At3 (((cur.setIfInBounds (k * 3) x).setIfInBounds (k * 3 + 1) y).setIfInBounds (k * 3 + 2) z) j b := by
  unfold At3 at *
  simp only [Array.getElem?_setIfInBounds]
  rw [if_neg (by omega), if_neg (by omega), if_neg (by omega), if_neg (by omega), if_neg (by omega), if_neg (by omega), if_neg (by omega), if_neg (by omega), if_neg (by omega)]
  exact h
theorem At3.new {cur : Array Value} {k : Nat} (hk : k * 3 + 2 < cur.size) (b : Blk) : At3 (((cur.setIfInBounds (k * 3) (.int .i64 b.1)).setIfInBounds (k * 3 + 1) (.int .i64 b.2.1)).setIfInBounds (k * 3 + 2) (.int .i64 b.2.2)) k b := by
  unfold At3
  simp only [Array.getElem?_setIfInBounds, Array.size_setIfInBounds]
  refine ⟨?_, ?_, ?_⟩
  · rw [if_neg (by omega), if_neg (by omega), if_pos trivial, if_pos (by omega)]
  · rw [if_neg (by omega), if_pos trivial, if_pos (by omega)]
  · rw [if_pos trivial, if_pos (by omega)]
theorem Bl.row {w : World} {g : Nat} {t : TypeId} {cur : Array Value} {xs : List Blk} (h : Row w g t cur) (hc : ∀ k, k < xs.length → At3 cur k (nth xs k)) : Bl w (some ⟨g, 0, none⟩) xs :=
  .inr ⟨g, 0, rfl, h.lt, fun k hk => by
    obtain ⟨h0, h1, h2⟩ := hc k hk
    simp only [Nat.zero_add]
    exact ⟨(h.cell _).trans h0, (h.cell _).trans h1, (h.cell _).trans h2⟩⟩
theorem below_grown {w W wr : World} {row : Option Nat} (h : Below w.heap.size w W) (hg : W.grownBy wr row) (hr : ∀ k, row = some k → w.heap.size ≤ k) : Below w.heap.size w wr := h.grown hg h.size hr

/-- What was there reads as it did (two rules for a walk). -/
theorem old_cells {B : Nat} {W w1 : World} (hb : Below B W w1) : (∀ b o, b < B → w1.cell? ⟨b, o, none⟩ = W.cell? ⟨b, o, none⟩) ∧ (∀ b o, b < B → w1.frozen? ⟨b, o, none⟩ = W.frozen? ⟨b, o, none⟩) :=
  ⟨fun b o h => hb.cell (p := ⟨b, o, none⟩) h, fun b o h => hb.frozen (p := ⟨b, o, none⟩) h⟩

theorem Bl.far {w : World} {g o : Nat} {xs : List Blk} (h : Bl w (some ⟨g, o, none⟩) xs) {p : Addr} (hne : p.block ≠ g) (u : Value) : Bl (w.setCell p u) (some ⟨g, o, none⟩) xs := by
  rcases h with rfl | ⟨b, o', hA, hb, hc⟩
  · exact .inl rfl
  · simp only [Option.some.injEq, Addr.mk.injEq, and_true] at hA
    obtain ⟨rfl, rfl⟩ := hA
    refine .inr ⟨g, o, rfl, by simpa [World.setCell] using hb, fun k hk => ?_⟩
    have key : ∀ i, (w.setCell p u).cell? ⟨g, i, none⟩ = w.cell? ⟨g, i, none⟩ := fun i => World.cell?_of_block (w := w) (a := ⟨g, i, none⟩) (Below.heap_setCell w p u g (fun e => hne e.symm))
    simp only [key]
    exact hc k hk

theorem Row.far {w : World} {g : Nat} {t : TypeId} {cur : Array Value} (h : Row w g t cur) {p : Addr} (hne : p.block ≠ g) (u : Value) : Row (w.setCell p u) g t cur :=
  (Below.heap_setCell w p u g (fun e => hne e.symm)).trans h
theorem Row.new (w : World) (t : TypeId) (cur : Array Value) : Row (w.alloc (.cells cur t)) w.heap.size t cur := heap_alloc_new w _

end Go.Proofs.Ytbknpflbafjblaa

/- Plain laws of grids: what a grid tells of the blocks that were put in. Conditions: none. -/
namespace Go.Proofs.Ytbknpflbafjblaa

def upd (G : Nat → Int) (i : Nat) (v : Int) : Nat → Int := fun j => if j = i then v else G j
def leftB (G : Nat → Int) (b : Blk) : Bool := (G (b.1.toNat * 15 + b.2.1.toNat) == -1) && (G (b.1.toNat * 15 + b.2.2.toNat) == -1) && (G (b.2.1.toNat * 15 + b.2.2.toNat) == -1)
def putG (G : Nat → Int) (b : Blk) (is : Bool) : Nat → Int :=
  upd (upd (upd (upd (upd (upd G (b.1.toNat * 15 + b.2.1.toNat) (if is then b.2.2 else -1)) (b.2.1.toNat * 15 + b.1.toNat) (if is then b.2.2 else -1))
    (b.2.1.toNat * 15 + b.2.2.toNat) (if is then b.1 else -1)) (b.2.2.toNat * 15 + b.2.1.toNat) (if is then b.1 else -1))
    (b.2.2.toNat * 15 + b.1.toNat) (if is then b.2.1 else -1)) (b.1.toNat * 15 + b.2.2.toNat) (if is then b.2.1 else -1)


def gridN (bs : List Blk) : Nat → (Nat → Int)
  | 0 => fun _ => -1
  | k + 1 => putG (gridN bs k) (nth bs k) true

theorem good_bd {v : Int} {b : Blk} (h : goodB v b = true) : 0 ≤ b.1 ∧ b.1 < b.2.1 ∧ b.2.1 < b.2.2 ∧ b.2.2 < v := by simpa [goodB] using h
theorem good_mono {v v' : Int} {b : Blk} (h : goodB v b = true) (hv : v ≤ v') : goodB v' b = true := by
  have := good_bd h; simp [goodB]; omega
theorem has_iff {b : Blk} {p : Int} : hasB b p = true ↔ b.1 = p ∨ b.2.1 = p ∨ b.2.2 = p := by simp [hasB]

/-- both points of two different ones lie in a block -/
def inB (b : Blk) (p q : Int) : Bool := decide (p ≠ q) && hasB b p && hasB b q
theorem inB_iff {b : Blk} {p q : Int} : inB b p q = true ↔ p ≠ q ∧ hasB b p = true ∧ hasB b q = true := by simp [inB, and_assoc]
def sumB (b : Blk) : Int := b.1 + b.2.1 + b.2.2

theorem putG_cell (G : Nat → Int) {b : Blk} (hg : goodB 15 b = true) {p q : Int} (hp : 0 ≤ p) (hq : 0 ≤ q) (hq' : q < 15) (is : Bool) :
    putG G b is (p.toNat * 15 + q.toNat) = if inB b p q = true then (if is then sumB b - p - q else -1) else G (p.toNat * 15 + q.toNat) := by
  obtain ⟨x, y, z⟩ := b
  have hb := good_bd hg
  dsimp only at hb
  have key : ∀ a c : Int, 0 ≤ a → 0 ≤ c → c < 15 → ((p.toNat * 15 + q.toNat = a.toNat * 15 + c.toNat) ↔ (p = a ∧ q = c)) := by
    intro a c _ _ _; omega
  simp only [putG, upd]
  simp only [key x z (by omega) (by omega) (by omega), key z x (by omega) (by omega) (by omega), key z y (by omega) (by omega) (by omega), key y z (by omega) (by omega) (by omega), key y x (by omega) (by omega) (by omega), key x y (by omega) (by omega) (by omega)]
  have hin : inB (x, y, z) p q = true ↔ p ≠ q ∧ (x = p ∨ y = p ∨ z = p) ∧ (x = q ∨ y = q ∨ z = q) := by rw [inB_iff, has_iff, has_iff]
  by_cases h : inB (x, y, z) p q = true
  · rw [if_pos h]
    obtain ⟨hne, h1, h2⟩ := hin.1 h
    simp only [sumB]
    rcases h1 with rfl | rfl | rfl <;> rcases h2 with h2 | h2 | h2 <;> first | exact absurd h2 hne | (subst h2; cases is <;> simp <;> (repeat' split) <;> omega)
  · rw [if_neg h]
    rw [hin] at h
    rw [if_neg (by rintro ⟨rfl, rfl⟩; exact h ⟨by omega, by simp, by simp⟩), if_neg (by rintro ⟨rfl, rfl⟩; exact h ⟨by omega, by simp, by simp⟩), if_neg (by rintro ⟨rfl, rfl⟩; exact h ⟨by omega, by simp, by simp⟩),
      if_neg (by rintro ⟨rfl, rfl⟩; exact h ⟨by omega, by simp, by simp⟩), if_neg (by rintro ⟨rfl, rfl⟩; exact h ⟨by omega, by simp, by simp⟩), if_neg (by rintro ⟨rfl, rfl⟩; exact h ⟨by omega, by simp, by simp⟩)]

theorem in_third {b : Blk} {v : Int} (hg : goodB v b = true) {p q : Int} (h : inB b p q = true) : 0 ≤ sumB b - p - q ∧ sumB b - p - q < v ∧ hasB b (sumB b - p - q) = true := by
  obtain ⟨x, y, z⟩ := b
  have hb := good_bd hg
  dsimp only at hb
  obtain ⟨hne, h1, h2⟩ := inB_iff.1 h
  rw [has_iff] at *
  simp only [sumB] at *
  omega

theorem gridN_free (bs : List Blk) {p q : Int} (hp : 0 ≤ p) (hq : 0 ≤ q) (hq' : q < 15) : ∀ k, (∀ j, j < k → goodB 15 (nth bs j) = true) →
    (gridN bs k (p.toNat * 15 + q.toNat) = -1 ↔ ∀ j, j < k → inB (nth bs j) p q = false) := by
  intro k
  induction k with
  | zero => intro _; simp [gridN]
  | succ k ih =>
    intro hg
    have ih := ih fun j hj => hg j (by omega)
    rw [gridN, putG_cell _ (hg k (by omega)) hp hq hq']
    by_cases h : inB (nth bs k) p q = true
    · rw [if_pos h, if_pos rfl]
      have := in_third (hg k (by omega)) h
      constructor
      · intro e; omega
      · intro e; have := e k (by omega); rw [h] at this; cases this
    · rw [if_neg h, ih]
      constructor
      · intro e j hj
        by_cases hjk : j < k
        · exact e j hjk
        · obtain rfl : j = k := by omega
          simpa using h
      · intro e j hj; exact e j (by omega)

theorem comI_count (a : Blk) {b : Blk} {v : Int} (hg : goodB v b = true) : comI a b = one (hasB b a.1) + one (hasB b a.2.1) + one (hasB b a.2.2) := by
  obtain ⟨x, y, z⟩ := b
  have hb := good_bd hg
  dsimp only at hb
  have key : ∀ p : Int, one (p == x) + one (p == y) + one (p == z) = one (hasB (x, y, z) p) := by
    intro p
    simp only [hasB, one, beq_iff_eq, decide_eq_true_eq]
    (repeat' split) <;> omega
  unfold comI
  dsimp only
  rw [key, key, key]

theorem comI_two {a b : Blk} {v v' : Int} (ha : goodB v a = true) (hg : goodB v' b = true) : comI a b ≤ 1 ↔ inB b a.1 a.2.1 = false ∧ inB b a.1 a.2.2 = false ∧ inB b a.2.1 a.2.2 = false := by
  rw [comI_count a hg]
  have := good_bd ha
  have e1 : inB b a.1 a.2.1 = (hasB b a.1 && hasB b a.2.1) := by
    have : a.1 ≠ a.2.1 := by omega
    simp [inB, this]
  have e2 : inB b a.1 a.2.2 = (hasB b a.1 && hasB b a.2.2) := by
    have : a.1 ≠ a.2.2 := by omega
    simp [inB, this]
  have e3 : inB b a.2.1 a.2.2 = (hasB b a.2.1 && hasB b a.2.2) := by
    have : a.2.1 ≠ a.2.2 := by omega
    simp [inB, this]
  rw [e1, e2, e3]
  cases hasB b a.1 <;> cases hasB b a.2.1 <;> cases hasB b a.2.2 <;> simp [one]

theorem left_iff {bs : List Blk} {k : Nat} {b : Blk} (hg : ∀ j, j < k → goodB 15 (nth bs j) = true) (hb : goodB 15 b = true) :
    leftB (gridN bs k) b = true ↔ ∀ j, j < k → comI b (nth bs j) ≤ 1 := by
  have h := good_bd hb
  unfold leftB
  simp only [Bool.and_eq_true, beq_iff_eq]
  rw [gridN_free bs (by omega) (by omega) (by omega) k hg, gridN_free bs (by omega) (by omega) (by omega) k hg, gridN_free bs (by omega) (by omega) (by omega) k hg]
  constructor
  · rintro ⟨⟨h1, h2⟩, h3⟩ j hj
    exact (comI_two hb (hg j hj)).2 ⟨h1 j hj, h2 j hj, h3 j hj⟩
  · intro h
    exact ⟨⟨fun j hj => ((comI_two hb (hg j hj)).1 (h j hj)).1, fun j hj => ((comI_two hb (hg j hj)).1 (h j hj)).2.1⟩, fun j hj => ((comI_two hb (hg j hj)).1 (h j hj)).2.2⟩

/-- the third point of two points in a list of blocks, or -1 -/
def third : List Blk → Int → Int → Int
  | [], _, _ => -1
  | b :: bs, p, q => if hasB b p && hasB b q then sumB b - p - q else third bs p q

end Go.Proofs.Ytbknpflbafjblaa

/- Words for a grid's block of 225 numbers; conditions: none. -/
namespace Go.Proofs.Ytbknpflbafjblaa
open Go.RowKit

def gcells (G : Nat → Int) : Array Value := ((List.range 225).map fun i => Value.int .i64 (G i)).toArray
/-- Block g is a grid that holds the numbers G. -/
def Gr (w : World) (g : Nat) (G : Nat → Int) : Prop := w.heap[g]? = some (.cells (gcells G) 180 (0, 0))

theorem gcells_get (G : Nat → Int) (i : Nat) (h : i < 225) : (gcells G)[i]? = some (.int .i64 (G i)) := by
  simp [gcells, h]
theorem gcells_upd (G : Nat → Int) (i : Nat) (v : Int) : (gcells G).setIfInBounds i (.int .i64 v) = gcells (upd G i v) := by
  apply Array.ext_getElem?
  intro j
  by_cases hj : j < 225
  · rw [gcells_get _ _ hj, Array.getElem?_setIfInBounds]
    by_cases hij : i = j
    · subst hij; simp [gcells, hj, upd]
    · rw [if_neg hij, gcells_get _ _ hj]; simp [upd, Ne.symm hij]
  · simp [gcells, hj]
theorem gcells_congr {G H : Nat → Int} (h : ∀ i, i < 225 → G i = H i) : gcells G = gcells H := by
  unfold gcells
  congr 1
  apply List.map_congr_left
  intro i hi
  rw [h i (by simpa using hi)]

theorem Gr.lt {w : World} {g : Nat} {G : Nat → Int} (h : Gr w g G) : g < w.heap.size := by
  rcases Nat.lt_or_ge g w.heap.size with hlt | hge
  · exact hlt
  · unfold Gr at h; rw [Array.getElem?_eq_none hge] at h; cases h
theorem Gr.cell {w : World} {g : Nat} {G : Nat → Int} (h : Gr w g G) {i : Nat} (hi : i < 225) : w.cell? ⟨g, i, none⟩ = some (.int .i64 (G i)) := by
  unfold Gr at h
  rw [cell_of_row w g i _ _ _ h, gcells_get _ _ hi]
theorem Gr.frozen {w : World} {g : Nat} {G : Nat → Int} (h : Gr w g G) (i : Nat) : w.frozen? ⟨g, i, none⟩ = false := by
  unfold Gr at h
  simp [World.frozen?, h]
theorem Gr.set {w : World} {g : Nat} {G : Nat → Int} (h : Gr w g G) (i : Nat) (v : Int) : Gr (w.setCell ⟨g, i, none⟩ (.int .i64 v)) g (upd G i v) := by
  unfold Gr at h ⊢
  simp [World.setCell, Array.getElem?_modify, h, gcells_upd]
theorem Gr.below {w w' : World} {g : Nat} {G : Nat → Int} (h : Gr w g G) (hb : Below w.heap.size w w') : Gr w' g G := (hb.block g h.lt).trans h
theorem Gr.congr {w : World} {g : Nat} {G H : Nat → Int} (h : Gr w g G) (e : ∀ i, i < 225 → G i = H i) : Gr w g H := by
  unfold Gr at h ⊢; rw [h, gcells_congr e]

theorem grown_drewN {a w : World} {row : Option Nat} (h : a.grownBy w row) (n : Nat) : a.grownBy (w.drewN n) row := ⟨h.os, h.tape, h.output, h.size, h.block⟩
theorem grown_set {a w : World} {g : Nat} (h : a.grownBy w (some g)) (i : Nat) (v : Value) : a.grownBy (w.setCell ⟨g, i, none⟩ v) (some g) :=
  ⟨h.os, h.tape, h.output, by simpa [World.setCell] using h.size, fun k hk hne => (Below.heap_setCell _ _ _ _ (fun e => hne (by rw [e]))).trans (h.block k hk hne)⟩
theorem grown_refl (w : World) (row : Option Nat) : w.grownBy w row := ⟨rfl, rfl, rfl, Nat.le_refl _, fun _ _ _ => rfl⟩
theorem grown_trans {a b c : World} {row : Option Nat} (h : a.grownBy b row) (k : b.grownBy c row) : a.grownBy c row :=
  ⟨k.os.trans h.os, k.tape.trans h.tape, k.output.trans h.output, Nat.le_trans h.size k.size, fun i hi hne => (k.block i (Nat.lt_of_lt_of_le hi h.size) hne).trans (h.block i hi hne)⟩
theorem grown_below {a b : World} (h : Below a.heap.size a b) (row : Option Nat) : a.grownBy b row := ⟨h.os, h.tape, h.output, h.size, fun k hk _ => h.block k hk⟩
theorem Box.grown {w w' : World} {r g : Nat} {b : Blk} (h : Box w r b) (hg : w.grownBy w' (some g)) (hne : some r ≠ some g) : Box w' r b :=
  ⟨Nat.lt_of_lt_of_le h.1 hg.size, fun i hi => (World.cell?_of_block (w := w) (hg.block r h.1 hne)).trans (h.2 i hi)⟩
theorem Box.set {w : World} {r g : Nat} {b : Blk} (h : Box w r b) (hne : some r ≠ some g) (i : Nat) (v : Value) : Box (w.setCell ⟨g, i, none⟩ v) r b :=
  h.grown (grown_set (grown_refl w _) i v) hne

end Go.Proofs.Ytbknpflbafjblaa

/- Contracts of small functions over blocks and numbers; conditions: stated in each. -/
namespace Go.Proofs.Ytbknpflbafjblaa
open Go.RowKit
set_option maxHeartbeats 400000

theorem within_any (n lo hi : Int) (w : World) :
    Calls Try.prog 57 #[.int .i64 n, .int .i64 lo, .int .i64 hi] w fun e w' => e = .returned (.bool (decide (lo ≤ n ∧ n ≤ hi))) ∧ w = w' := by
  go_enter Try.func57, Try.ntmps57
  go_wp2
  all_goals go_ret
  all_goals exact ⟨ret_bool (by simp; omega), rfl⟩

theorem l01In_any (n lo hi : Int) (w : World) :
    Calls Try.prog 86 #[.int .i64 n, .int .i64 lo, .int .i64 hi] w fun e w' => e = .returned (.bool (decide (lo ≤ n ∧ n ≤ hi))) ∧ w = w' := by
  go_enter Try.func86, Try.ntmps86
  go_wp2
  all_goals go_ret
  all_goals exact ⟨ret_bool (by simp; omega), rfl⟩

theorem eqBlock_any (a b : Blk) (w : World) :
    Calls Try.prog 111 #[.agg #[.int .i64 a.1, .int .i64 a.2.1, .int .i64 a.2.2], .agg #[.int .i64 b.1, .int .i64 b.2.1, .int .i64 b.2.2]] w fun e w' => e = .returned (.bool (eqB a b)) ∧ Below w.heap.size w w' := by
  obtain ⟨a0, a1, a2⟩ := a; obtain ⟨b0, b1, b2⟩ := b; unfold eqB; simp only [Prod.mk.injEq]
  go_enter Try.func111, Try.ntmps111
  go_wp2
  refine wp_loop_rounds 4 ?_
  rw [rounds_succ]; go_wp2; go_quiet (fail); go_wp2
  rotate_left; rw [rounds_succ]; go_wp2; go_quiet (fail); go_wp2
  rotate_left; rw [rounds_succ]; go_wp2; go_quiet (fail); go_wp2
  rotate_left; rw [rounds_succ]; go_wp2
  all_goals go_returns
  all_goals refine ⟨ret_bool ?_, ?_⟩
  all_goals first | ((repeat' (first | (with_reducible exact Below.refl _ _) | (with_reducible assumption) | (with_reducible refine below_drewN ?_ _) | (with_reducible refine Below.drew ?_) | (with_reducible refine Below.alloc ?_ ?_ _) | (with_reducible refine Below.setCell ?_ ?_ _) | go_size)); done) | (first | rfl | (simp_all; done) | (rw [Bool.eq_iff_iff]; simp_all; done) | (rw [Bool.eq_iff_iff]; simp; omega) | (rw [Bool.eq_iff_iff]; simp_all; omega))

theorem l01Before_any (a b : Blk) (w : World) :
    Calls Try.prog 105 #[.agg #[.int .i64 a.1, .int .i64 a.2.1, .int .i64 a.2.2], .agg #[.int .i64 b.1, .int .i64 b.2.1, .int .i64 b.2.2]] w fun e w' => e = .returned (.bool (befB a b)) ∧ Below w.heap.size w w' := by
  obtain ⟨a0, a1, a2⟩ := a; obtain ⟨b0, b1, b2⟩ := b; unfold befB; dsimp only
  go_enter Try.func105, Try.ntmps105
  go_wp2
  refine wp_loop_rounds 4 ?_
  rw [rounds_succ]; go_wp2; go_quiet (fail); go_wp2
  rotate_left; rw [rounds_succ]; go_wp2; go_quiet (fail); go_wp2
  rotate_left; rw [rounds_succ]; go_wp2; go_quiet (fail); go_wp2
  rotate_left; rw [rounds_succ]; go_wp2
  all_goals try (go_quiet (fail); go_wp2)
  all_goals go_returns
  all_goals refine ⟨ret_bool ?_, ?_⟩
  all_goals first | ((repeat' (first | (with_reducible exact Below.refl _ _) | (with_reducible assumption) | (with_reducible refine below_drewN ?_ _) | (with_reducible refine Below.drew ?_) | (with_reducible refine Below.alloc ?_ ?_ _) | (with_reducible refine Below.setCell ?_ ?_ _) | go_size)); done) | (first | rfl | (simp_all; done) | (rw [Bool.eq_iff_iff]; simp_all; done) | (rw [Bool.eq_iff_iff]; simp; omega) | (rw [Bool.eq_iff_iff]; simp_all; omega))

theorem l01Good_any (v : Int) (b : Blk) (w : World) :
    Calls Try.prog 104 #[.int .i64 v, .agg #[.int .i64 b.1, .int .i64 b.2.1, .int .i64 b.2.2]] w fun e w' => e = .returned (.bool (goodB v b)) ∧ Below w.heap.size w w' := by
  obtain ⟨b0, b1, b2⟩ := b; unfold goodB; dsimp only
  go_enter Try.func104, Try.ntmps104
  go_wp2
  all_goals go_ret
  all_goals refine ⟨ret_bool ?_, ?_⟩
  all_goals first | ((repeat' (first | (with_reducible exact Below.refl _ _) | (with_reducible assumption) | (with_reducible refine below_drewN ?_ _) | (with_reducible refine Below.drew ?_) | (with_reducible refine Below.alloc ?_ ?_ _) | (with_reducible refine Below.setCell ?_ ?_ _) | go_size)); done) | (first | rfl | (simp_all; done) | (rw [Bool.eq_iff_iff]; simp_all; done) | (rw [Bool.eq_iff_iff]; simp; omega) | (rw [Bool.eq_iff_iff]; simp_all; omega))

theorem l01With_any (b : Blk) (p : Int) (w : World) :
    Calls Try.prog 158 #[.agg #[.int .i64 b.1, .int .i64 b.2.1, .int .i64 b.2.2], .int .i64 p] w fun e w' => e = .returned (.bool (hasB b p)) ∧ Below w.heap.size w w' := by
  obtain ⟨b0, b1, b2⟩ := b; unfold hasB; dsimp only
  go_enter Try.func158, Try.ntmps158
  go_wp2
  all_goals go_ret
  all_goals refine ⟨ret_bool ?_, ?_⟩
  all_goals first | ((repeat' (first | (with_reducible exact Below.refl _ _) | (with_reducible assumption) | (with_reducible refine below_drewN ?_ _) | (with_reducible refine Below.drew ?_) | (with_reducible refine Below.alloc ?_ ?_ _) | (with_reducible refine Below.setCell ?_ ?_ _) | go_size)); done) | (first | rfl | (simp_all; done) | (rw [Bool.eq_iff_iff]; simp_all; done) | (rw [Bool.eq_iff_iff]; simp; omega) | (rw [Bool.eq_iff_iff]; simp_all; omega))

theorem has_any (b : Blk) (p : Int) (w : World) :
    Calls Try.prog 174 #[.agg #[.int .i64 b.1, .int .i64 b.2.1, .int .i64 b.2.2], .int .i64 p] w fun e w' => e = .returned (.bool (hasB b p)) ∧ Below w.heap.size w w' := by
  obtain ⟨b0, b1, b2⟩ := b; unfold hasB; dsimp only
  go_enter Try.func174, Try.ntmps174
  go_wp2
  all_goals go_ret
  all_goals refine ⟨ret_bool ?_, ?_⟩
  all_goals first | ((repeat' (first | (with_reducible exact Below.refl _ _) | (with_reducible assumption) | (with_reducible refine below_drewN ?_ _) | (with_reducible refine Below.drew ?_) | (with_reducible refine Below.alloc ?_ ?_ _) | (with_reducible refine Below.setCell ?_ ?_ _) | go_size)); done) | (first | rfl | (simp_all; done) | (rw [Bool.eq_iff_iff]; simp_all; done) | (rw [Bool.eq_iff_iff]; simp; omega) | (rw [Bool.eq_iff_iff]; simp_all; omega))

theorem isNaN_any (n : Int) (w : World) :
    Calls Try.prog 177 #[.int .i64 n] w fun e w' => e = .returned (.bool false) ∧ w = w' := by
  go_enter Try.func177, Try.ntmps177
  go_wp2
  go_ret
  exact ⟨ret_bool (by simp), rfl⟩

theorem cmpCompare_any (a b : Int) (w : World) :
    Calls Try.prog 165 #[.int .i64 a, .int .i64 b] w fun e w' => e = .returned (.int .i64 (cmpI a b)) ∧ w = w' := by
  go_enter Try.func165, Try.ntmps165
  go_wp2_with (go_at_call 177; refine (isNaN_any _ _).mono ?_; rintro e w' ⟨rfl, rfl⟩)
  all_goals go_ret
  all_goals refine ⟨ret_int ?_, rfl⟩
  all_goals unfold cmpI
  all_goals (repeat' split) <;> omega

end Go.Proofs.Ytbknpflbafjblaa

/- Contracts of the grid: newGrid, isLeft, put; conditions: stated in each. -/
namespace Go.Proofs.Ytbknpflbafjblaa
open Go.RowKit
set_option maxHeartbeats 400000
set_option maxRecDepth 100000

theorem zeroGrid : Try.zeroCells180 = gcells (fun _ => 0) := by kernel_rfl
theorem newGrid_any (w : World) :
    Calls Try.prog 169 #[] w fun e w' => ∃ g, e = .returned (.pointer (some ⟨g, 0, none⟩)) ∧ Gr w' g (fun _ => -1) ∧ w.heap.size ≤ g ∧ Below w.heap.size w w' := by
  have hz : Gr (w.alloc (.cells Try.zeroCells180 180)) w.heap.size (fun _ => 0) := by
    unfold Gr; rw [zeroGrid]; exact heap_alloc_new w _
  go_enter Try.func169, Try.ntmps169
  go_wp2
  have hb0 := below_alloc w (.cells Try.zeroCells180 180)
  generalize w.alloc _ = W at *
  have HZ := Lib.hid hz; have HB0 := Lib.hid hb0; clear hz hb0
  go_loopw [4] (fun i wr => ∃ k : Nat, k ≤ 15 ∧ i = .int .i64 k ∧ Hid (Below w.heap.size w wr ∧ ∃ G, Gr wr w.heap.size G ∧ ∀ j, j < k * 15 → G j = -1)) (fun i _ => 15 - (intOf i).toNat)
  case atStart => exact ⟨0, by omega, rfl, HB0.out, _, HZ.out, fun j hj => by omega⟩
  case round =>
    obtain ⟨k, hk, rfl, HC⟩ := hrel
    by_cases hlt : k < 15
    · go_wp2
      obtain ⟨wo, rfl⟩ : ∃ wo : World, wo = wr := ⟨_, rfl⟩
      go_loopw [7] (fun i wr => ∃ j : Nat, j ≤ 15 ∧ i = .int .i64 j ∧ Hid (Below w.heap.size w wr ∧ ∃ G, Gr wr w.heap.size G ∧ ∀ m, m < k * 15 + j → G m = -1)) (fun i _ => 15 - (intOf i).toNat)
      case atStart => exact ⟨0, by omega, rfl, HC⟩
      case round =>
        obtain ⟨j, hj, rfl, HD⟩ := hrel
        by_cases hlt2 : j < 15
        · obtain ⟨hbb, G, hG, hm⟩ := HD.out
          have p0 := hG.cell (i := k * 15 + j) (by omega)
          have p1 := hG.frozen (k * 15 + j)
          have HE := Lib.hid (And.intro hbb (And.intro hG hm)); clear hbb hG hm HD
          go_wp2
          go_roundw
          case rel =>
            obtain ⟨hbb, hG, hm⟩ := HE.out
            refine ⟨j + 1, by omega, by go_num, hbb.setCell (Nat.le_refl _) _, _, hG.set _ _, fun m hm' => ?_⟩
            unfold upd
            split
            · rfl
            · exact hm m (by omega)
          case measure => simp [intOf]; omega
        · obtain rfl : j = 15 := by omega
          go_wp2
          go_roundw
          case rel => exact ⟨k + 1, by omega, by go_num, HD.out.1, (HD.out.2.elim fun G h => ⟨G, h.1, fun m hm => h.2 m (by omega)⟩)⟩
          case measure => simp [intOf]; omega
    · obtain rfl : k = 15 := by omega
      go_wp2
      go_ret
      obtain ⟨hbb, G, hG, hm⟩ := HC.out
      exact ⟨w.heap.size, rfl, hG.congr fun i hi => hm i hi, Nat.le_refl _, hbb⟩

theorem isLeft_any (g : Nat) (G : Nat → Int) (b : Blk) (w : World) (hG : Gr w g G) (hg : goodB 15 b = true) :
    Calls Try.prog 98 #[.pointer (some ⟨g, 0, none⟩), .agg #[.int .i64 b.1, .int .i64 b.2.1, .int .i64 b.2.2]] w fun e w' => e = .returned (.bool (leftB G b)) ∧ Below w.heap.size w w' := by
  obtain ⟨p, q, r⟩ := b
  unfold goodB at hg
  simp only [decide_eq_true_eq] at hg
  obtain ⟨h0, h1, h2, h3⟩ := hg
  dsimp only
  have hL : leftB G (p, q, r) = ((G (p.toNat * 15 + q.toNat) == -1) && (G (p.toNat * 15 + r.toNat) == -1) && (G (q.toNat * 15 + r.toNat) == -1)) := rfl
  generalize leftB G (p, q, r) = L at *
  have HL := Lib.hid hL; clear hL
  have p1 := hG.cell (i := p.toNat * 15 + q.toNat) (by omega)
  have p2 := hG.cell (i := p.toNat * 15 + r.toNat) (by omega)
  have p3 := hG.cell (i := q.toNat * 15 + r.toNat) (by omega)
  have hgl := hG.lt
  have HG := Lib.hid hG; clear hG
  generalize G (p.toNat * 15 + q.toNat) = x at *
  generalize G (p.toNat * 15 + r.toNat) = y at *
  generalize G (q.toNat * 15 + r.toNat) = z at *
  by_cases e1 : (x == -1) = true
  · by_cases e2 : (y == -1) = true
    · go_enter Try.func98, Try.ntmps98
      go_wp2
      go_quiet (fail)
      go_wp2
      go_ret
      refine ⟨ret_bool ?_, below_drewN (below_alloc _ _) _⟩
      rw [HL.out, e1, e2]; rfl
    · have e2' : (y == -1) = false := by simpa using e2
      clear e2
      go_enter Try.func98, Try.ntmps98
      go_wp2
      go_quiet (fail)
      go_wp2
      go_ret
      refine ⟨ret_bool ?_, below_drewN (below_alloc _ _) _⟩
      rw [HL.out, e1, e2']; rfl
  · have e1' : (x == -1) = false := by simpa using e1
    clear e1
    go_enter Try.func98, Try.ntmps98
    go_wp2
    go_quiet (fail)
    go_wp2
    go_ret
    refine ⟨ret_bool ?_, below_drewN (below_alloc _ _) _⟩
    rw [HL.out, e1']; rfl

theorem idx0 (p q r : Int) : ∀ w, (Instr.index 99 (.agg #[.int .i64 p, .int .i64 q, .int .i64 r]) (.int .i64 0)).run Try.prog w = .ok (.int .i64 p) w := fun _ => by kernel_rfl
theorem idx1 (p q r : Int) : ∀ w, (Instr.index 99 (.agg #[.int .i64 p, .int .i64 q, .int .i64 r]) (.int .i64 1)).run Try.prog w = .ok (.int .i64 q) w := fun _ => by kernel_rfl
theorem idx2 (p q r : Int) : ∀ w, (Instr.index 99 (.agg #[.int .i64 p, .int .i64 q, .int .i64 r]) (.int .i64 2)).run Try.prog w = .ok (.int .i64 r) w := fun _ => by kernel_rfl

theorem put_true (g : Nat) (G : Nat → Int) (b : Blk) (w : World) (hG : Gr w g G) (hg : goodB 15 b = true) :
    Calls Try.prog 99 #[.pointer (some ⟨g, 0, none⟩), .agg #[.int .i64 b.1, .int .i64 b.2.1, .int .i64 b.2.2], .bool true] w fun e w' => e = .returned (.tuple #[]) ∧ Gr w' g (putG G b true) ∧ w.grownBy w' (some g) := by
  obtain ⟨p, q, r⟩ := b
  unfold goodB at hg
  simp only [decide_eq_true_eq] at hg
  obtain ⟨h0, h1, h2, h3⟩ := hg
  dsimp only
  have hgl := hG.lt
  have HG := Lib.hid hG; clear hG
  have i0 := idx0 p q r
  have i1 := idx1 p q r
  have i2 := idx2 p q r
  go_enter Try.func99, Try.ntmps99
  go_wp2
  have hG1 : Gr (w.alloc (.cells #[.int .i64 p, .int .i64 q, .int .i64 r] 99)) g G := HG.out.below (below_alloc _ _)
  have hB : Box (w.alloc (.cells #[.int .i64 p, .int .i64 q, .int .i64 r] 99)) w.heap.size (p, q, r) := Box.new w (p, q, r) 99
  have hgr : w.grownBy (w.alloc (.cells #[.int .i64 p, .int .i64 q, .int .i64 r] 99)) (some g) := World.grownBy_alloc _ _ _
  have hgne : some w.heap.size ≠ some g := by intro h; injection h; omega
  generalize w.alloc _ = W at *
  have HG0 := Lib.hid hG1; have HB0 := Lib.hid hB; have HR0 := Lib.hid hgr; have HN := Lib.hid hgne; clear hG1 hB hgr HG hgne
  refine wp_loop_rounds 4 ?_
  have q0 : W.cell? ⟨w.heap.size, 0, none⟩ = some (.int .i64 p) := HB0.out.2 0 (by omega)
  have q1 : W.cell? ⟨w.heap.size, 1, none⟩ = some (.int .i64 q) := HB0.out.2 1 (by omega)
  have q2 : W.cell? ⟨w.heap.size, 2, none⟩ = some (.int .i64 r) := HB0.out.2 2 (by omega)
  rw [rounds_succ]; go_wp2; go_quiet (fail)
  have HG1 : Hid (Gr (W.drewN nq) g (G)) := HG0.out
  have HR1 : Hid (w.grownBy (W.drewN nq) (some g)) := grown_drewN HR0.out _
  have HB1 : Hid (Box (W.drewN nq) w.heap.size (p, q, r)) := HB0.out
  clear HG0 HB0 HR0 q0 q1 q2
  generalize W.drewN nq = U0 at *
  have p1 := HG1.out.cell (i := p.toNat * 15 + q.toNat) (by omega)
  have f1 := HG1.out.frozen (p.toNat * 15 + q.toNat)
  have p2 := (HG1.out.set (p.toNat * 15 + q.toNat) r).cell (i := q.toNat * 15 + p.toNat) (by omega)
  have f2 := (HG1.out.set (p.toNat * 15 + q.toNat) r).frozen (q.toNat * 15 + p.toNat)
  go_wp2
  go_region
  have HG0 : Hid (Gr ((U0.setCell ⟨g, p.toNat * 15 + q.toNat, none⟩ (.int .i64 r)).setCell ⟨g, q.toNat * 15 + p.toNat, none⟩ (.int .i64 r)).drew g (upd (upd (G) (p.toNat * 15 + q.toNat) r) (q.toNat * 15 + p.toNat) r)) := (HG1.out.set _ _).set _ _
  have HR0 : Hid (w.grownBy ((U0.setCell ⟨g, p.toNat * 15 + q.toNat, none⟩ (.int .i64 r)).setCell ⟨g, q.toNat * 15 + p.toNat, none⟩ (.int .i64 r)).drew (some g)) := grown_drewN (grown_set (grown_set HR1.out _ _) _ _) 1
  have HB0 : Hid (Box ((U0.setCell ⟨g, p.toNat * 15 + q.toNat, none⟩ (.int .i64 r)).setCell ⟨g, q.toNat * 15 + p.toNat, none⟩ (.int .i64 r)).drew w.heap.size (p, q, r)) := (HB1.out.set HN.out _ _).set HN.out _ _
  clear HG1 HB1 HR1 p1 f1 p2 f2
  go_wp2
  generalize World.drew (World.setCell (World.setCell U0 _ _) _ _) = V0 at *
  have q0 : V0.cell? ⟨w.heap.size, 0, none⟩ = some (.int .i64 p) := HB0.out.2 0 (by omega)
  have q1 : V0.cell? ⟨w.heap.size, 1, none⟩ = some (.int .i64 q) := HB0.out.2 1 (by omega)
  have q2 : V0.cell? ⟨w.heap.size, 2, none⟩ = some (.int .i64 r) := HB0.out.2 2 (by omega)
  rw [rounds_succ]; go_wp2; go_quiet (fail)
  have HG1 : Hid (Gr (V0.drewN nq) g (upd (upd (G) (p.toNat * 15 + q.toNat) r) (q.toNat * 15 + p.toNat) r)) := HG0.out
  have HR1 : Hid (w.grownBy (V0.drewN nq) (some g)) := grown_drewN HR0.out _
  have HB1 : Hid (Box (V0.drewN nq) w.heap.size (p, q, r)) := HB0.out
  clear HG0 HB0 HR0 q0 q1 q2
  generalize V0.drewN nq = U1 at *
  have p1 := HG1.out.cell (i := q.toNat * 15 + r.toNat) (by omega)
  have f1 := HG1.out.frozen (q.toNat * 15 + r.toNat)
  have p2 := (HG1.out.set (q.toNat * 15 + r.toNat) p).cell (i := r.toNat * 15 + q.toNat) (by omega)
  have f2 := (HG1.out.set (q.toNat * 15 + r.toNat) p).frozen (r.toNat * 15 + q.toNat)
  go_wp2
  go_region
  have HG0 : Hid (Gr ((U1.setCell ⟨g, q.toNat * 15 + r.toNat, none⟩ (.int .i64 p)).setCell ⟨g, r.toNat * 15 + q.toNat, none⟩ (.int .i64 p)).drew g (upd (upd (upd (upd (G) (p.toNat * 15 + q.toNat) r) (q.toNat * 15 + p.toNat) r) (q.toNat * 15 + r.toNat) p) (r.toNat * 15 + q.toNat) p)) := (HG1.out.set _ _).set _ _
  have HR0 : Hid (w.grownBy ((U1.setCell ⟨g, q.toNat * 15 + r.toNat, none⟩ (.int .i64 p)).setCell ⟨g, r.toNat * 15 + q.toNat, none⟩ (.int .i64 p)).drew (some g)) := grown_drewN (grown_set (grown_set HR1.out _ _) _ _) 1
  have HB0 : Hid (Box ((U1.setCell ⟨g, q.toNat * 15 + r.toNat, none⟩ (.int .i64 p)).setCell ⟨g, r.toNat * 15 + q.toNat, none⟩ (.int .i64 p)).drew w.heap.size (p, q, r)) := (HB1.out.set HN.out _ _).set HN.out _ _
  clear HG1 HB1 HR1 p1 f1 p2 f2
  go_wp2
  generalize World.drew (World.setCell (World.setCell U1 _ _) _ _) = V1 at *
  have q0 : V1.cell? ⟨w.heap.size, 0, none⟩ = some (.int .i64 p) := HB0.out.2 0 (by omega)
  have q1 : V1.cell? ⟨w.heap.size, 1, none⟩ = some (.int .i64 q) := HB0.out.2 1 (by omega)
  have q2 : V1.cell? ⟨w.heap.size, 2, none⟩ = some (.int .i64 r) := HB0.out.2 2 (by omega)
  rw [rounds_succ]; go_wp2; go_quiet (fail)
  have HG1 : Hid (Gr (V1.drewN nq) g (upd (upd (upd (upd (G) (p.toNat * 15 + q.toNat) r) (q.toNat * 15 + p.toNat) r) (q.toNat * 15 + r.toNat) p) (r.toNat * 15 + q.toNat) p)) := HG0.out
  have HR1 : Hid (w.grownBy (V1.drewN nq) (some g)) := grown_drewN HR0.out _
  have HB1 : Hid (Box (V1.drewN nq) w.heap.size (p, q, r)) := HB0.out
  clear HG0 HB0 HR0 q0 q1 q2
  generalize V1.drewN nq = U2 at *
  have p1 := HG1.out.cell (i := r.toNat * 15 + p.toNat) (by omega)
  have f1 := HG1.out.frozen (r.toNat * 15 + p.toNat)
  have p2 := (HG1.out.set (r.toNat * 15 + p.toNat) q).cell (i := p.toNat * 15 + r.toNat) (by omega)
  have f2 := (HG1.out.set (r.toNat * 15 + p.toNat) q).frozen (p.toNat * 15 + r.toNat)
  go_wp2
  go_region
  have HG0 : Hid (Gr ((U2.setCell ⟨g, r.toNat * 15 + p.toNat, none⟩ (.int .i64 q)).setCell ⟨g, p.toNat * 15 + r.toNat, none⟩ (.int .i64 q)).drew g (upd (upd (upd (upd (upd (upd (G) (p.toNat * 15 + q.toNat) r) (q.toNat * 15 + p.toNat) r) (q.toNat * 15 + r.toNat) p) (r.toNat * 15 + q.toNat) p) (r.toNat * 15 + p.toNat) q) (p.toNat * 15 + r.toNat) q)) := (HG1.out.set _ _).set _ _
  have HR0 : Hid (w.grownBy ((U2.setCell ⟨g, r.toNat * 15 + p.toNat, none⟩ (.int .i64 q)).setCell ⟨g, p.toNat * 15 + r.toNat, none⟩ (.int .i64 q)).drew (some g)) := grown_drewN (grown_set (grown_set HR1.out _ _) _ _) 1
  have HB0 : Hid (Box ((U2.setCell ⟨g, r.toNat * 15 + p.toNat, none⟩ (.int .i64 q)).setCell ⟨g, p.toNat * 15 + r.toNat, none⟩ (.int .i64 q)).drew w.heap.size (p, q, r)) := (HB1.out.set HN.out _ _).set HN.out _ _
  clear HG1 HB1 HR1 p1 f1 p2 f2
  go_wp2
  generalize World.drew (World.setCell (World.setCell U2 _ _) _ _) = V2 at *
  rw [rounds_succ]; go_wp2
  go_end0
  exact ⟨rfl, HG0.out, HR0.out⟩

theorem put_false (g : Nat) (G : Nat → Int) (b : Blk) (w : World) (hG : Gr w g G) (hg : goodB 15 b = true) :
    Calls Try.prog 99 #[.pointer (some ⟨g, 0, none⟩), .agg #[.int .i64 b.1, .int .i64 b.2.1, .int .i64 b.2.2], .bool false] w fun e w' => e = .returned (.tuple #[]) ∧ Gr w' g (putG G b false) ∧ w.grownBy w' (some g) := by
  obtain ⟨p, q, r⟩ := b
  unfold goodB at hg
  simp only [decide_eq_true_eq] at hg
  obtain ⟨h0, h1, h2, h3⟩ := hg
  dsimp only
  have hgl := hG.lt
  have HG := Lib.hid hG; clear hG
  have i0 := idx0 p q r
  have i1 := idx1 p q r
  have i2 := idx2 p q r
  go_enter Try.func99, Try.ntmps99
  go_wp2
  have hG1 : Gr (w.alloc (.cells #[.int .i64 p, .int .i64 q, .int .i64 r] 99)) g G := HG.out.below (below_alloc _ _)
  have hB : Box (w.alloc (.cells #[.int .i64 p, .int .i64 q, .int .i64 r] 99)) w.heap.size (p, q, r) := Box.new w (p, q, r) 99
  have hgr : w.grownBy (w.alloc (.cells #[.int .i64 p, .int .i64 q, .int .i64 r] 99)) (some g) := World.grownBy_alloc _ _ _
  have hgne : some w.heap.size ≠ some g := by intro h; injection h; omega
  generalize w.alloc _ = W at *
  have HG0 := Lib.hid hG1; have HB0 := Lib.hid hB; have HR0 := Lib.hid hgr; have HN := Lib.hid hgne; clear hG1 hB hgr HG hgne
  refine wp_loop_rounds 4 ?_
  have q0 : W.cell? ⟨w.heap.size, 0, none⟩ = some (.int .i64 p) := HB0.out.2 0 (by omega)
  have q1 : W.cell? ⟨w.heap.size, 1, none⟩ = some (.int .i64 q) := HB0.out.2 1 (by omega)
  have q2 : W.cell? ⟨w.heap.size, 2, none⟩ = some (.int .i64 r) := HB0.out.2 2 (by omega)
  rw [rounds_succ]; go_wp2; go_quiet (fail)
  have HG1 : Hid (Gr (W.drewN nq) g (G)) := HG0.out
  have HR1 : Hid (w.grownBy (W.drewN nq) (some g)) := grown_drewN HR0.out _
  have HB1 : Hid (Box (W.drewN nq) w.heap.size (p, q, r)) := HB0.out
  clear HG0 HB0 HR0 q0 q1 q2
  generalize W.drewN nq = U0 at *
  have p1 := HG1.out.cell (i := p.toNat * 15 + q.toNat) (by omega)
  have f1 := HG1.out.frozen (p.toNat * 15 + q.toNat)
  have p2 := (HG1.out.set (p.toNat * 15 + q.toNat) (-1)).cell (i := q.toNat * 15 + p.toNat) (by omega)
  have f2 := (HG1.out.set (p.toNat * 15 + q.toNat) (-1)).frozen (q.toNat * 15 + p.toNat)
  go_wp2
  go_region
  have HG0 : Hid (Gr ((U0.setCell ⟨g, p.toNat * 15 + q.toNat, none⟩ (.int .i64 (-1))).setCell ⟨g, q.toNat * 15 + p.toNat, none⟩ (.int .i64 (-1))).drew g (upd (upd (G) (p.toNat * 15 + q.toNat) (-1)) (q.toNat * 15 + p.toNat) (-1))) := (HG1.out.set _ _).set _ _
  have HR0 : Hid (w.grownBy ((U0.setCell ⟨g, p.toNat * 15 + q.toNat, none⟩ (.int .i64 (-1))).setCell ⟨g, q.toNat * 15 + p.toNat, none⟩ (.int .i64 (-1))).drew (some g)) := grown_drewN (grown_set (grown_set HR1.out _ _) _ _) 1
  have HB0 : Hid (Box ((U0.setCell ⟨g, p.toNat * 15 + q.toNat, none⟩ (.int .i64 (-1))).setCell ⟨g, q.toNat * 15 + p.toNat, none⟩ (.int .i64 (-1))).drew w.heap.size (p, q, r)) := (HB1.out.set HN.out _ _).set HN.out _ _
  clear HG1 HB1 HR1 p1 f1 p2 f2
  go_wp2
  generalize World.drew (World.setCell (World.setCell U0 _ _) _ _) = V0 at *
  have q0 : V0.cell? ⟨w.heap.size, 0, none⟩ = some (.int .i64 p) := HB0.out.2 0 (by omega)
  have q1 : V0.cell? ⟨w.heap.size, 1, none⟩ = some (.int .i64 q) := HB0.out.2 1 (by omega)
  have q2 : V0.cell? ⟨w.heap.size, 2, none⟩ = some (.int .i64 r) := HB0.out.2 2 (by omega)
  rw [rounds_succ]; go_wp2; go_quiet (fail)
  have HG1 : Hid (Gr (V0.drewN nq) g (upd (upd (G) (p.toNat * 15 + q.toNat) (-1)) (q.toNat * 15 + p.toNat) (-1))) := HG0.out
  have HR1 : Hid (w.grownBy (V0.drewN nq) (some g)) := grown_drewN HR0.out _
  have HB1 : Hid (Box (V0.drewN nq) w.heap.size (p, q, r)) := HB0.out
  clear HG0 HB0 HR0 q0 q1 q2
  generalize V0.drewN nq = U1 at *
  have p1 := HG1.out.cell (i := q.toNat * 15 + r.toNat) (by omega)
  have f1 := HG1.out.frozen (q.toNat * 15 + r.toNat)
  have p2 := (HG1.out.set (q.toNat * 15 + r.toNat) (-1)).cell (i := r.toNat * 15 + q.toNat) (by omega)
  have f2 := (HG1.out.set (q.toNat * 15 + r.toNat) (-1)).frozen (r.toNat * 15 + q.toNat)
  go_wp2
  go_region
  have HG0 : Hid (Gr ((U1.setCell ⟨g, q.toNat * 15 + r.toNat, none⟩ (.int .i64 (-1))).setCell ⟨g, r.toNat * 15 + q.toNat, none⟩ (.int .i64 (-1))).drew g (upd (upd (upd (upd (G) (p.toNat * 15 + q.toNat) (-1)) (q.toNat * 15 + p.toNat) (-1)) (q.toNat * 15 + r.toNat) (-1)) (r.toNat * 15 + q.toNat) (-1))) := (HG1.out.set _ _).set _ _
  have HR0 : Hid (w.grownBy ((U1.setCell ⟨g, q.toNat * 15 + r.toNat, none⟩ (.int .i64 (-1))).setCell ⟨g, r.toNat * 15 + q.toNat, none⟩ (.int .i64 (-1))).drew (some g)) := grown_drewN (grown_set (grown_set HR1.out _ _) _ _) 1
  have HB0 : Hid (Box ((U1.setCell ⟨g, q.toNat * 15 + r.toNat, none⟩ (.int .i64 (-1))).setCell ⟨g, r.toNat * 15 + q.toNat, none⟩ (.int .i64 (-1))).drew w.heap.size (p, q, r)) := (HB1.out.set HN.out _ _).set HN.out _ _
  clear HG1 HB1 HR1 p1 f1 p2 f2
  go_wp2
  generalize World.drew (World.setCell (World.setCell U1 _ _) _ _) = V1 at *
  have q0 : V1.cell? ⟨w.heap.size, 0, none⟩ = some (.int .i64 p) := HB0.out.2 0 (by omega)
  have q1 : V1.cell? ⟨w.heap.size, 1, none⟩ = some (.int .i64 q) := HB0.out.2 1 (by omega)
  have q2 : V1.cell? ⟨w.heap.size, 2, none⟩ = some (.int .i64 r) := HB0.out.2 2 (by omega)
  rw [rounds_succ]; go_wp2; go_quiet (fail)
  have HG1 : Hid (Gr (V1.drewN nq) g (upd (upd (upd (upd (G) (p.toNat * 15 + q.toNat) (-1)) (q.toNat * 15 + p.toNat) (-1)) (q.toNat * 15 + r.toNat) (-1)) (r.toNat * 15 + q.toNat) (-1))) := HG0.out
  have HR1 : Hid (w.grownBy (V1.drewN nq) (some g)) := grown_drewN HR0.out _
  have HB1 : Hid (Box (V1.drewN nq) w.heap.size (p, q, r)) := HB0.out
  clear HG0 HB0 HR0 q0 q1 q2
  generalize V1.drewN nq = U2 at *
  have p1 := HG1.out.cell (i := r.toNat * 15 + p.toNat) (by omega)
  have f1 := HG1.out.frozen (r.toNat * 15 + p.toNat)
  have p2 := (HG1.out.set (r.toNat * 15 + p.toNat) (-1)).cell (i := p.toNat * 15 + r.toNat) (by omega)
  have f2 := (HG1.out.set (r.toNat * 15 + p.toNat) (-1)).frozen (p.toNat * 15 + r.toNat)
  go_wp2
  go_region
  have HG0 : Hid (Gr ((U2.setCell ⟨g, r.toNat * 15 + p.toNat, none⟩ (.int .i64 (-1))).setCell ⟨g, p.toNat * 15 + r.toNat, none⟩ (.int .i64 (-1))).drew g (upd (upd (upd (upd (upd (upd (G) (p.toNat * 15 + q.toNat) (-1)) (q.toNat * 15 + p.toNat) (-1)) (q.toNat * 15 + r.toNat) (-1)) (r.toNat * 15 + q.toNat) (-1)) (r.toNat * 15 + p.toNat) (-1)) (p.toNat * 15 + r.toNat) (-1))) := (HG1.out.set _ _).set _ _
  have HR0 : Hid (w.grownBy ((U2.setCell ⟨g, r.toNat * 15 + p.toNat, none⟩ (.int .i64 (-1))).setCell ⟨g, p.toNat * 15 + r.toNat, none⟩ (.int .i64 (-1))).drew (some g)) := grown_drewN (grown_set (grown_set HR1.out _ _) _ _) 1
  have HB0 : Hid (Box ((U2.setCell ⟨g, r.toNat * 15 + p.toNat, none⟩ (.int .i64 (-1))).setCell ⟨g, p.toNat * 15 + r.toNat, none⟩ (.int .i64 (-1))).drew w.heap.size (p, q, r)) := (HB1.out.set HN.out _ _).set HN.out _ _
  clear HG1 HB1 HR1 p1 f1 p2 f2
  go_wp2
  generalize World.drew (World.setCell (World.setCell U2 _ _) _ _) = V2 at *
  rw [rounds_succ]; go_wp2
  go_end0
  exact ⟨rfl, HG0.out, HR0.out⟩

end Go.Proofs.Ytbknpflbafjblaa

/- Contracts over blocks by loops: l01Common, slices.Compare, compare, rises, isBlock; conditions: stated in each. -/
namespace Go.Proofs.Ytbknpflbafjblaa
open Go.RowKit
set_option maxHeartbeats 400000

theorem l01Common_any (a b : Blk) (w : World) :
    Calls Try.prog 141 #[.agg #[.int .i64 a.1, .int .i64 a.2.1, .int .i64 a.2.2], .agg #[.int .i64 b.1, .int .i64 b.2.1, .int .i64 b.2.2]] w fun e w' => e = .returned (.int .i64 (comI a b)) ∧ Below w.heap.size w w' := by
  go_enter Try.func141, Try.ntmps141
  go_wp2
  have hA0 := (Box.new w a 99).below (below_alloc _ (.cells #[.int .i64 b.1, .int .i64 b.2.1, .int .i64 b.2.2] 99))
  have hB0 := Box.new (w.alloc (.cells #[.int .i64 a.1, .int .i64 a.2.1, .int .i64 a.2.2] 99)) b 99
  have hW0 := below_up (below_alloc w (.cells #[.int .i64 a.1, .int .i64 a.2.1, .int .i64 a.2.2] 99)) (below_alloc _ (.cells #[.int .i64 b.1, .int .i64 b.2.1, .int .i64 b.2.2] 99))
  rw [World.size_alloc] at hB0
  generalize (w.alloc _).alloc _ = W at *
  have HA := Lib.hid hA0; have HB := Lib.hid hB0; have HW := Lib.hid hW0; clear hA0 hB0 hW0
  go_loopw [5, 6] (fun c i wr => ∃ k : Nat, k ≤ 3 ∧ i = .int .i64 k ∧ c = .int .i64 (comN a b (3 * k)) ∧ Below W.heap.size W wr) (fun _ i _ => 3 - (intOf i).toNat)
  case atStart => exact ⟨0, by omega, rfl, rfl, Below.refl _ _⟩
  case round =>
    obtain ⟨k, hk, rfl, rfl, hb⟩ := hrel
    by_cases hlt : k < 3
    · go_wp2
      obtain ⟨wo, rfl⟩ : ∃ wo : World, wo = wr := ⟨_, rfl⟩
      go_loopw [5, 7] (fun c i wr => ∃ j : Nat, j ≤ 3 ∧ i = .int .i64 j ∧ c = .int .i64 (comN a b (3 * k + j)) ∧ Below W.heap.size W wr) (fun _ i _ => 3 - (intOf i).toNat)
      case atStart => exact ⟨0, by omega, rfl, rfl, hb⟩
      case round =>
        obtain ⟨j, hj, rfl, rfl, hb⟩ := hrel
        by_cases hlt2 : j < 3
        · have p0 := (HA.out.below hb).2 k hlt
          have q0 := (HB.out.below hb).2 j hlt2
          have cb := comN_bd a b (3 * k + j)
          go_wp2
          go_quiet (fail)
          go_wp2
          all_goals
            have hs := comN_step a b k j hlt2
            simp_all [one]
          all_goals
            refine ⟨⟨j + 1, by omega, by omega, by omega, below_drewN hb _⟩, by simp [intOf]; omega⟩
        · obtain rfl : j = 3 := by omega
          go_wp2
          go_roundw
          case rel => exact ⟨k + 1, by omega, by go_num, rfl, hb⟩
          case measure => simp [intOf]; omega
    · obtain rfl : k = 3 := by omega
      go_wp2
      go_ret
      exact ⟨ret_int (comN_nine a b), below_up HW.out hb⟩

theorem slicesCompare_any (A B : Option Addr) (c d : Nat) (xs ys : List Int) (w : World) (hA : Il w A xs) (hB : Il w B ys) (hlx : xs.length ≤ 1048576) (hly : ys.length ≤ 1048576) :
    Calls Try.prog 135 #[.slice A xs.length c, .slice B ys.length d] w fun e w' => e = .returned (.int .i64 (cmpL xs ys)) ∧ w = w' := by
  go_enter Try.func135, Try.ntmps135
  go_wp2
  have HA := Lib.hid hA; have HB := Lib.hid hB; clear hA hB
  go_loop [11] (fun i => ∃ k : Nat, k ≤ xs.length ∧ k ≤ ys.length ∧ i = .int .i64 k ∧ Hid (cmpL xs ys = cmpL (xs.drop k) (ys.drop k))) (fun i => xs.length - (intOf i).toNat)
  case atStart => exact ⟨0, by omega, by omega, rfl, rfl⟩
  case round =>
    obtain ⟨k, hk, hk', rfl, HC⟩ := hrel
    by_cases hlt : k < xs.length
    · obtain ⟨b1, o1, hA1, hb1, p0⟩ := HA.out.at_ hlt
      subst hA1
      by_cases hlt' : k < ys.length
      · obtain ⟨b2, o2, hA2, hb2, q0⟩ := HB.out.at_ hlt'
        subst hA2
        have HC' : Hid (cmpL xs ys = if nthI xs k < nthI ys k then -1 else if nthI ys k < nthI xs k then 1 else cmpL (xs.drop (k + 1)) (ys.drop (k + 1))) := by
          unfold Hid; rw [HC.out, drop_cons hlt, drop_cons hlt']; rfl
        go_wp2_with (go_at_call 165; refine (cmpCompare_any _ _ _).mono ?_; rintro e w' ⟨rfl, rfl⟩)
        · go_ret
          rename_i hc
          refine ⟨ret_int ?_, rfl⟩
          rw [HC'.out]
          unfold cmpI at *
          (repeat' split) <;> simp_all
        · go_round
          case rel =>
            refine ⟨k + 1, by omega, by omega, by go_num, ?_⟩
            unfold Hid; rw [HC'.out]
            unfold cmpI at *
            (repeat' split) <;> simp_all
          case measure => simp [intOf]; omega
      · obtain rfl : k = ys.length := by omega
        go_wp2
        go_ret
        refine ⟨ret_int ?_, rfl⟩
        rw [HC.out, drop_cons hlt, List.drop_length]; rfl
    · obtain rfl : k = xs.length := by omega
      by_cases hlt' : xs.length < ys.length
      · go_wp2
        go_ret
        refine ⟨ret_int ?_, rfl⟩
        rw [HC.out, drop_cons hlt', List.drop_length]; rfl
      · have he : ys.length ≤ xs.length := by omega
        go_wp2
        go_ret
        refine ⟨ret_int ?_, rfl⟩
        rw [HC.out, List.drop_length, List.drop_eq_nil_of_le he]; rfl

theorem rises_any (A : Option Addr) (c : Nat) (xs : List Int) (n : Int) (w : World) (hA : Il w A xs) (hlx : xs.length ≤ 1048576) (hn0 : 0 ≤ n) (hn1 : n ≤ 1048576) :
    Calls Try.prog 116 #[.slice A xs.length c, .int .i64 n] w fun e w' => e = .returned (.bool (risesB xs n)) ∧ w = w' := by
  go_enter Try.func116, Try.ntmps116
  go_wp2
  have HA := Lib.hid hA; clear hA
  go_loop [9] (fun i => ∃ k : Nat, k ≤ xs.length ∧ i = .int .i64 k ∧ Hid (∀ j, j < k → (0 ≤ nthI xs j ∧ nthI xs j ≤ n - 1) ∧ (0 < j → nthI xs (j - 1) < nthI xs j))) (fun i => xs.length - (intOf i).toNat)
  case atStart => exact ⟨0, by omega, rfl, fun j hj => by omega⟩
  case round =>
    obtain ⟨k, hk, rfl, HC⟩ := hrel
    by_cases hlt : k < xs.length
    · obtain ⟨b1, o1, hA1, hb1, p0⟩ := HA.out.at_ hlt
      subst hA1
      by_cases hin : 0 ≤ nthI xs k ∧ nthI xs k ≤ n - 1
      · by_cases hk0 : 0 < k
        · obtain ⟨b2, o2, hA2, hb2, q0⟩ := HA.out.at_ (k := k - 1) (by omega)
          simp only [Option.some.injEq, Addr.mk.injEq] at hA2
          obtain ⟨rfl, rfl, -⟩ := hA2
          by_cases hlo : nthI xs (k - 1) < nthI xs k
          · go_wp2_with (go_at_call 57; refine (within_any _ _ _ _).mono ?_; rintro e w' ⟨rfl, rfl⟩)
            go_round
            case rel =>
              refine ⟨k + 1, by omega, by go_num, fun j hj => ?_⟩
              by_cases hjk : j < k
              · exact HC.out j hjk
              · obtain rfl : j = k := by omega
                exact ⟨hin, fun _ => hlo⟩
            case measure => simp [intOf]; omega
          · have hlo' : nthI xs k ≤ nthI xs (k - 1) := by omega
            go_wp2_with (go_at_call 57; refine (within_any _ _ _ _).mono ?_; rintro e w' ⟨rfl, rfl⟩)
            go_ret
            exact ⟨ret_bool (risesB_false fun h => absurd ((h k hlt).2 hk0) (by omega)).symm, rfl⟩
        · obtain rfl : k = 0 := by omega
          rw [Nat.add_zero] at p0
          go_wp2_with (go_at_call 57; refine (within_any _ _ _ _).mono ?_; rintro e w' ⟨rfl, rfl⟩)
          go_round
          case rel =>
            refine ⟨1, by omega, rfl, fun j hj => ?_⟩
            obtain rfl : j = 0 := by omega
            exact ⟨hin, fun h => by omega⟩
          case measure => simp [intOf]; omega
      · have hin' : decide (0 ≤ nthI xs k ∧ nthI xs k ≤ n - 1) = false := by simpa using hin
        go_wp2_with (go_at_call 57; refine (within_any _ _ _ _).mono ?_; rintro e w' ⟨rfl, rfl⟩)
        go_ret
        exact ⟨ret_bool (risesB_false fun h => absurd (h k hlt).1 (by simpa using hin')).symm, rfl⟩
    · obtain rfl : k = xs.length := by omega
      go_wp2
      go_ret
      exact ⟨ret_bool (risesB_true HC.out).symm, rfl⟩

theorem isBlock_any (b : Blk) (v : Int) (w : World) (hn0 : 0 ≤ v) (hn1 : v ≤ 1048576) :
    Calls Try.prog 151 #[.agg #[.int .i64 b.1, .int .i64 b.2.1, .int .i64 b.2.2], .int .i64 v] w fun e w' => e = .returned (.bool (goodB v b)) ∧ Below w.heap.size w w' := by
  have hA := (Box.new w b 99).il
  go_enter Try.func151, Try.ntmps151
  go_wp2_with (go_at_call 116; refine (rises_any (some ⟨w.heap.size, 0, none⟩) 3 (lst b) v _ hA (by simp [lst]) hn0 hn1).mono ?_; rintro e w' ⟨rfl, rfl⟩)
  go_ret
  exact ⟨ret_bool (risesB_lst b v), below_alloc _ _⟩

end Go.Proofs.Ytbknpflbafjblaa

/- Contracts: compare, l01Fits, l01Is; conditions: stated in each. -/
namespace Go.Proofs.Ytbknpflbafjblaa
open Go.RowKit
set_option maxHeartbeats 400000

theorem compare_any (a b : Blk) (w : World) :
    Calls Try.prog 152 #[.agg #[.int .i64 a.1, .int .i64 a.2.1, .int .i64 a.2.2], .agg #[.int .i64 b.1, .int .i64 b.2.1, .int .i64 b.2.2]] w fun e w' => e = .returned (.int .i64 (cmpB a b)) ∧ Below w.heap.size w w' := by
  go_enter Try.func152, Try.ntmps152
  go_wp2
  have hA0 := (Box.new w a 99).below (below_alloc _ (.cells #[.int .i64 b.1, .int .i64 b.2.1, .int .i64 b.2.2] 99))
  have hB0 := Box.new (w.alloc (.cells #[.int .i64 a.1, .int .i64 a.2.1, .int .i64 a.2.2] 99)) b 99
  have hW0 := below_up (below_alloc w (.cells #[.int .i64 a.1, .int .i64 a.2.1, .int .i64 a.2.2] 99)) (below_alloc _ (.cells #[.int .i64 b.1, .int .i64 b.2.1, .int .i64 b.2.2] 99))
  rw [World.size_alloc] at hB0
  generalize (w.alloc _).alloc _ = W at *
  have HA := Lib.hid hA0; have HB := Lib.hid hB0; have HW := Lib.hid hW0; clear hA0 hB0 hW0
  refine wp_region_ge_lit (by kernel_rfl) (by kernel_rfl) ?_; (repeat (go_big_quiet_step ((go_at_call 135; exact ge_call_same (slicesCompare_any (some ⟨w.heap.size, 0, none⟩) (some ⟨w.heap.size + 1, 0, none⟩) 3 3 (lst a) (lst b) _ (HA.out.below (ge_below _ _)).il (HB.out.below (ge_below _ _)).il (by simp [lst]) (by simp [lst])))))); refine wpQuiet_nil ?_
  rintro w1 ⟨x, rfl⟩
  go_wp2
  go_ret
  exact ⟨ret_int rfl, below_up HW.out (ge_below _ _)⟩

theorem l01Fits_any (A : Option Addr) (c : Nat) (xs : List Blk) (w : World) (hA : Bl w A xs) (hl : xs.length ≤ 1048576) :
    Calls Try.prog 106 #[.slice A xs.length c] w fun e w' => e = .returned (.bool (fitsB xs)) ∧ Below w.heap.size w w' := by
  go_enter Try.func106, Try.ntmps106
  go_wp2
  have HA := Lib.hid hA; clear hA
  go_loopw [3] (fun i wr => ∃ k : Nat, k ≤ xs.length ∧ i = .int .i64 k ∧ Below w.heap.size w wr ∧ Hid (∀ i, i < k → ∀ j, j < i → comI (nth xs i) (nth xs j) ≤ 1)) (fun i _ => xs.length - (intOf i).toNat)
  case atStart => exact ⟨0, by omega, rfl, Below.refl _ _, fun i hi => by omega⟩
  case round =>
    obtain ⟨k, hk, rfl, hb, HC⟩ := hrel
    by_cases hlt : k < xs.length
    · go_wp2
      obtain ⟨wo, rfl⟩ : ∃ wo : World, wo = wr := ⟨_, rfl⟩
      go_loopw [4] (fun i wr => ∃ j : Nat, j ≤ k ∧ i = .int .i64 j ∧ Below w.heap.size w wr ∧ Hid (∀ i, i < j → comI (nth xs k) (nth xs i) ≤ 1)) (fun i _ => k - (intOf i).toNat)
      case atStart => exact ⟨0, by omega, rfl, hb, fun i hi => by omega⟩
      case round =>
        obtain ⟨j, hj, rfl, hb, HD⟩ := hrel
        by_cases hlt2 : j < k
        · obtain ⟨b1, o1, hA1, hb1, p0, p1, p2⟩ := (HA.out.below hb).at_ hlt
          subst hA1
          obtain ⟨b2, o2, hA2, hb2, q0, q1, q2⟩ := (HA.out.below hb).at_ (k := j) (by omega)
          simp only [Option.some.injEq, Addr.mk.injEq] at hA2
          obtain ⟨rfl, rfl, -⟩ := hA2
          have cb := comI_bd (nth xs k) (nth xs j)
          by_cases hc : comI (nth xs k) (nth xs j) ≤ 1
          · go_wp2
            refine wp_region_ge_lit (by kernel_rfl) (by kernel_rfl) ?_; (repeat (go_big_quiet_step ((go_at_call 141; exact ge_call (l01Common_any (nth xs k) (nth xs j) _))))); refine wpQuiet_nil ?_
            rintro w1 ⟨x, rfl⟩
            go_wp2
            go_roundw
            case rel =>
              refine ⟨j + 1, by omega, by go_num, below_up hb (ge_below _ _), fun i hi => ?_⟩
              by_cases hij : i < j
              · exact HD.out i hij
              · obtain rfl : i = j := by omega
                exact hc
            case measure => simp [intOf]; omega
          · have hc' : 1 < comI (nth xs k) (nth xs j) := by omega
            go_wp2
            refine wp_region_ge_lit (by kernel_rfl) (by kernel_rfl) ?_; (repeat (go_big_quiet_step ((go_at_call 141; exact ge_call (l01Common_any (nth xs k) (nth xs j) _))))); refine wpQuiet_nil ?_
            rintro w1 ⟨x, rfl⟩
            go_wp2
            go_ret
            exact ⟨ret_bool (fitsB_false fun h => absurd (h k hlt j hlt2) (by omega)).symm, below_up hb (ge_below _ _)⟩
        · obtain rfl : j = k := by omega
          go_wp2
          go_roundw
          case rel =>
            refine ⟨j + 1, by omega, by go_num, hb, fun i hi => ?_⟩
            by_cases hij : i < j
            · exact HC.out i hij
            · obtain rfl : i = j := by omega
              exact HD.out
          case measure => simp [intOf]; omega
    · obtain rfl : k = xs.length := by omega
      go_wp2
      go_ret
      exact ⟨ret_bool (fitsB_true HC.out).symm, hb⟩

theorem l01Is_any (v : Int) (A : Option Addr) (c : Nat) (xs : List Blk) (w : World) (hA : Bl w A xs) (hl : xs.length ≤ 1048576) :
    Calls Try.prog 52 #[.agg #[.int .i64 v, .slice A xs.length c]] w fun e w' => e = .returned (.bool (isSysB v xs)) ∧ Below w.heap.size w w' := by
  have HA := Lib.hid hA; clear hA
  have hnot : ¬ ((3 ≤ v ∧ v ≤ 15) ∧ xs.length ≤ 35) → isSysB v xs = false := fun h => isSysB_false fun hs => h ⟨hs.1, hs.2.1⟩
  by_cases hv : 3 ≤ v ∧ v ≤ 15
  · by_cases h35 : xs.length ≤ 35
    · clear hnot
      go_enter Try.func52, Try.ntmps52
      go_wp2_with (go_at_call 86; refine (l01In_any _ _ _ _).mono ?_; rintro e w' ⟨rfl, rfl⟩)
      have hW0 := below_alloc w (.cells #[.int .i64 v, .slice A xs.length c] 30)
      have c0 : (w.alloc (.cells #[.int .i64 v, .slice A xs.length c] 30)).cell? ⟨w.heap.size, 0, none⟩ = some (.int .i64 v) := by simp [go_sem]
      have c1 : (w.alloc (.cells #[.int .i64 v, .slice A xs.length c] 30)).cell? ⟨w.heap.size, 1, none⟩ = some (.slice A xs.length c) := by simp [go_sem]
      have hs : w.heap.size < (w.alloc (.cells #[.int .i64 v, .slice A xs.length c] 30)).heap.size := by simp
      generalize w.alloc _ = W at *
      have HA1 := Lib.hid (HA.out.below hW0)
      have HW := Lib.hid hW0; have HC0 := Lib.hid c0; have HC1 := Lib.hid c1
      clear hW0 c0 c1
      go_loopw [3] (fun i wr => ∃ k : Nat, k ≤ xs.length ∧ i = .int .i64 k ∧ Below W.heap.size W wr ∧ Hid (∀ j, j < k → goodB v (nth xs j) = true ∧ (0 < j → befB (nth xs (j - 1)) (nth xs j) = true))) (fun i _ => xs.length - (intOf i).toNat)
      case atStart => exact ⟨0, by omega, rfl, Below.refl _ _, fun i hi => by omega⟩
      case round =>
        obtain ⟨k, hk, rfl, hb, HC⟩ := hrel
        have d0 : wr.cell? ⟨w.heap.size, 0, none⟩ = _ := (hb.cell hs).trans HC0.out
        have d1 : wr.cell? ⟨w.heap.size, 1, none⟩ = _ := (hb.cell hs).trans HC1.out
        have hs' : w.heap.size < wr.heap.size := Nat.lt_of_lt_of_le hs hb.size
        by_cases hlt : k < xs.length
        · obtain ⟨b1, o1, hA1, hb1, p0, p1, p2⟩ := (HA1.out.below hb).at_ hlt
          subst hA1
          by_cases hg : goodB v (nth xs k) = true
          · by_cases hk0 : 0 < k
            · obtain ⟨b2, o2, hA2, hb2, q0, q1, q2⟩ := (HA1.out.below hb).at_ (k := k - 1) (by omega)
              simp only [Option.some.injEq, Addr.mk.injEq] at hA2
              obtain ⟨rfl, rfl, -⟩ := hA2
              by_cases hf : befB (nth xs (k - 1)) (nth xs k) = true
              · go_wp2
                refine wp_region_ge_lit (by kernel_rfl) (by kernel_rfl) ?_; (repeat (go_big_quiet_step (first | (go_at_call 104; exact ge_call (l01Good_any v (nth xs k) _)) | (go_at_call 105; exact ge_call (l01Before_any (nth xs (k - 1)) (nth xs k) _))))); refine wpQuiet_nil ?_
                rintro w1 ⟨x, rfl⟩
                go_wp2
                go_roundw
                case rel =>
                  refine ⟨k + 1, by omega, by go_num, below_up hb (ge_below _ _), fun j hj => ?_⟩
                  by_cases hjk : j < k
                  · exact HC.out j hjk
                  · obtain rfl : j = k := by omega
                    exact ⟨hg, fun _ => hf⟩
                case measure => simp [intOf]; omega
              · have hf' : befB (nth xs (k - 1)) (nth xs k) = false := by simpa using hf
                clear hf
                go_wp2
                refine wp_region_ge_lit (by kernel_rfl) (by kernel_rfl) ?_; (repeat (go_big_quiet_step (first | (go_at_call 104; exact ge_call (l01Good_any v (nth xs k) _)) | (go_at_call 105; exact ge_call (l01Before_any (nth xs (k - 1)) (nth xs k) _))))); refine wpQuiet_nil ?_
                rintro w1 ⟨x, rfl⟩
                go_wp2
                go_ret
                exact ⟨ret_bool (isSysB_false fun h => by have := (h.2.2.1 k hlt).2 hk0; rw [hf'] at this; cases this).symm, below_up HW.out (below_up hb (ge_below _ _))⟩
            · obtain rfl : k = 0 := by omega
              rw [Nat.zero_mul, Nat.add_zero] at p0 p1 p2
              go_wp2
              refine wp_region_ge_lit (by kernel_rfl) (by kernel_rfl) ?_; (repeat (go_big_quiet_step (first | (go_at_call 104; exact ge_call (l01Good_any v (nth xs 0) _))))); refine wpQuiet_nil ?_
              rintro w1 ⟨x, rfl⟩
              go_wp2
              go_roundw
              case rel =>
                refine ⟨1, by omega, rfl, below_up hb (ge_below _ _), fun j hj => ?_⟩
                obtain rfl : j = 0 := by omega
                exact ⟨hg, fun h => by omega⟩
              case measure => simp [intOf]; omega
          · have hg' : goodB v (nth xs k) = false := by simpa using hg
            clear hg
            go_wp2
            refine wp_region_ge_lit (by kernel_rfl) (by kernel_rfl) ?_; (repeat (go_big_quiet_step (first | (go_at_call 104; exact ge_call (l01Good_any v (nth xs k) _))))); refine wpQuiet_nil ?_
            rintro w1 ⟨x, rfl⟩
            go_wp2
            go_ret
            exact ⟨ret_bool (isSysB_false fun h => by have := (h.2.2.1 k hlt).1; rw [hg'] at this; cases this).symm, below_up HW.out (below_up hb (ge_below _ _))⟩
        · obtain rfl : k = xs.length := by omega
          go_wp2_with (go_at_call 106; refine (l01Fits_any A c xs _ (HA1.out.below hb) hl).mono ?_; rintro e w' ⟨rfl, hb2⟩)
          go_ret
          refine ⟨ret_bool ?_, below_up HW.out (below_up hb hb2)⟩
          rw [Bool.eq_iff_iff, fitsB_iff, isSysB_iff]
          exact ⟨fun h => ⟨hv, h35, HC.out, h⟩, fun h => h.2.2.2⟩
    · have h35' : 35 < xs.length := by omega
      have hr := hnot (fun h => h35 h.2)
      clear hnot h35
      go_enter Try.func52, Try.ntmps52
      go_wp2_with (go_at_call 86; refine (l01In_any _ _ _ _).mono ?_; rintro e w' ⟨rfl, rfl⟩)
      go_ret
      exact ⟨ret_bool hr.symm, below_alloc _ _⟩
  · have hr := hnot (fun h => hv h.1)
    have hv' : decide (3 ≤ v ∧ v ≤ 15) = false := by simpa using hv
    clear hnot hv
    go_enter Try.func52, Try.ntmps52
    go_wp2_with (go_at_call 86; refine (l01In_any _ _ _ _).mono ?_; rintro e w' ⟨rfl, rfl⟩)
    go_ret
    exact ⟨ret_bool hr.symm, below_alloc _ _⟩

end Go.Proofs.Ytbknpflbafjblaa

/- Contracts: gridOf, areBlocks, IsSystem, System.grid; conditions: stated in each. -/
namespace Go.Proofs.Ytbknpflbafjblaa
open Go.RowKit
set_option maxHeartbeats 400000

def GridOut (w w' : World) (xs : List Blk) (ptr : Option Addr) : Prop :=
  Below w.heap.size w w' ∧ (fits xs → ∃ g, ptr = some ⟨g, 0, none⟩ ∧ w.heap.size ≤ g ∧ Gr w' g (gridN xs xs.length))

theorem gridOf_any (A : Option Addr) (c : Nat) (xs : List Blk) (w : World) (hA : Bl w A xs) (hl : xs.length ≤ 1048576) (hgd : ∀ k, k < xs.length → goodB 15 (nth xs k) = true) :
    Calls Try.prog 143 #[.slice A xs.length c] w fun e w' => ∃ ptr, e = .returned (.tuple #[.pointer ptr, .bool (fitsB xs)]) ∧ GridOut w w' xs ptr := by
  have HA := Lib.hid hA; have HGD := Lib.hid hgd; clear hA hgd
  go_enter Try.func143, Try.ntmps143
  go_wp2_with (go_at_call 169; refine (newGrid_any _).mono ?_; rintro e w0 ⟨g, rfl, hG, hle, hb0⟩)
  have HG := Lib.hid hG; have HB := Lib.hid hb0; clear hG hb0
  go_loopw [10] (fun i wr => ∃ k : Nat, k ≤ xs.length ∧ i = .int .i64 k ∧ Hid (Below w.heap.size w wr ∧ Gr wr g (gridN xs k) ∧ ∀ i, i < k → ∀ j, j < i → comI (nth xs i) (nth xs j) ≤ 1)) (fun i _ => xs.length - (intOf i).toNat)
  case atStart => exact ⟨0, by omega, rfl, HB.out, HG.out, fun i hi => by omega⟩
  case round =>
    obtain ⟨k, hk, rfl, HC⟩ := hrel
    by_cases hlt : k < xs.length
    · obtain ⟨b1, o1, hA1, hb1, p0, p1, p2⟩ := (HA.out.below HC.out.1).at_ hlt
      subst hA1
      have hgk := Lib.hid (HGD.out k hlt)
      have HL : Hid (leftB (gridN xs k) (nth xs k) = true ↔ ∀ j, j < k → comI (nth xs k) (nth xs j) ≤ 1) := left_iff (fun j hj => HGD.out j (by omega)) hgk.out
      by_cases hc : leftB (gridN xs k) (nth xs k) = true
      · go_wp2_with fail
        refine (isLeft_any g (gridN xs k) (nth xs k) _ (HC.out.2.1.below (below_alloc _ _)) hgk.out).mono ?_
        rintro e w1 ⟨rfl, hb1'⟩
        have q0 : w1.cell? ⟨wr.heap.size, 0, none⟩ = some (.int .i64 (nth xs k).1) := (hb1'.cell (p := ⟨wr.heap.size, 0, none⟩) (by simp)).trans (by simp [go_sem])
        have q1 : w1.cell? ⟨wr.heap.size, 1, none⟩ = some (.int .i64 (nth xs k).2.1) := (hb1'.cell (p := ⟨wr.heap.size, 1, none⟩) (by simp)).trans (by simp [go_sem])
        have q2 : w1.cell? ⟨wr.heap.size, 2, none⟩ = some (.int .i64 (nth xs k).2.2) := (hb1'.cell (p := ⟨wr.heap.size, 2, none⟩) (by simp)).trans (by simp [go_sem])
        have HB1 : Hid (Below wr.heap.size wr w1) := below_up (below_alloc _ _) hb1'
        clear hb1'
        go_wp2_with fail
        refine (put_true g (gridN xs k) (nth xs k) _ (HC.out.2.1.below HB1.out) hgk.out).mono ?_
        rintro e w2 ⟨rfl, hG2, hgr2⟩
        have HG2 := Lib.hid hG2; have HGR2 := Lib.hid hgr2; clear hG2 hgr2
        go_wp2
        go_roundw
        case rel =>
          refine ⟨k + 1, by omega, by go_num, ?_, HG2.out, fun i hi => ?_⟩
          · refine (below_up HC.out.1 HB1.out).grown HGR2.out (Nat.le_trans HC.out.1.size HB1.out.size) (fun j hj => ?_)
            injection hj with hj; omega
          · by_cases hik : i < k
            · exact HC.out.2.2 i hik
            · obtain rfl : i = k := by omega
              exact HL.out.1 hc
        case measure => simp [intOf]; omega
      · have hc' : leftB (gridN xs k) (nth xs k) = false := by simpa using hc
        have HN : Hid (¬ ∀ j, j < k → comI (nth xs k) (nth xs j) ≤ 1) := fun h => hc (HL.out.2 h)
        clear hc
        go_wp2_with fail
        refine (isLeft_any g (gridN xs k) (nth xs k) _ (HC.out.2.1.below (below_alloc _ _)) hgk.out).mono ?_
        rintro e w1 ⟨rfl, hb1'⟩
        have HB1 : Hid (Below wr.heap.size wr w1) := below_up (below_alloc _ _) hb1'
        clear hb1'
        go_wp2
        go_ret2
        have hnf : ¬ fits xs := fun h => HN.out fun j hj => h k hlt j hj
        refine ⟨none, ?_, below_up HC.out.1 HB1.out, fun h => absurd h hnf⟩
        rw [fitsB_false hnf]; rfl
    · obtain rfl : k = xs.length := by omega
      go_wp2
      go_ret2
      obtain ⟨hb, hG, hf⟩ := HC.out
      refine ⟨_, ?_, hb, fun _ => ⟨g, rfl, hle, hG⟩⟩
      rw [fitsB_true hf]; rfl

theorem areBlocks_any (v : Int) (A : Option Addr) (c : Nat) (xs : List Blk) (w : World) (hA : Bl w A xs) (hl : xs.length ≤ 1048576) :
    Calls Try.prog 108 #[.int .i64 v, .slice A xs.length c] w fun e w' => e = .returned (.bool (isSysB v xs)) ∧ Below w.heap.size w w' := by
  have HA := Lib.hid hA; clear hA
  have hnot : ¬ ((3 ≤ v ∧ v ≤ 15) ∧ xs.length ≤ 35) → isSysB v xs = false := fun h => isSysB_false fun hs => h ⟨hs.1, hs.2.1⟩
  by_cases hv : 3 ≤ v ∧ v ≤ 15
  · by_cases h35 : xs.length ≤ 35
    · clear hnot
      have hv0 : 0 ≤ v := by omega
      have hv1 : v ≤ 1048576 := by omega
      go_enter Try.func108, Try.ntmps108
      go_wp2_with (go_at_call 57; refine (within_any _ _ _ _).mono ?_; rintro e w' ⟨rfl, rfl⟩)
      go_loopw [19] (fun i wr => ∃ k : Nat, k ≤ xs.length ∧ i = .int .i64 k ∧ Below w.heap.size w wr ∧ Hid (∀ j, j < k → goodB v (nth xs j) = true ∧ (0 < j → befB (nth xs (j - 1)) (nth xs j) = true))) (fun i _ => xs.length - (intOf i).toNat)
      case atStart => exact ⟨0, by omega, rfl, Below.refl _ _, fun i hi => by omega⟩
      case round =>
        obtain ⟨k, hk, rfl, hb, HC⟩ := hrel
        have HB := Lib.hid hb; clear hb
        by_cases hlt : k < xs.length
        · obtain ⟨b1, o1, hA1, hb1, p0, p1, p2⟩ := (HA.out.below HB.out).at_ hlt
          subst hA1
          have hbx := Box.new wr (nth xs k) 99
          have hba := below_alloc wr (.cells #[.int .i64 (nth xs k).1, .int .i64 (nth xs k).2.1, .int .i64 (nth xs k).2.2] 99)
          by_cases hg : goodB v (nth xs k) = true
          · by_cases hk0 : 0 < k
            · obtain ⟨b2, o2, hA2, hb2, s0, s1, s2⟩ := (HA.out.below HB.out).at_ (k := k - 1) (by omega)
              simp only [Option.some.injEq, Addr.mk.injEq] at hA2
              obtain ⟨rfl, rfl, -⟩ := hA2
              have hcm : decide (cmpB (nth xs (k - 1)) (nth xs k) ≥ 0) = !befB (nth xs (k - 1)) (nth xs k) := cmpB_bef _ _
              have HCM := Lib.hid hcm; clear hcm
              have cb := cmpB_bd (nth xs (k - 1)) (nth xs k)
              have HBX := Lib.hid hbx; have HBA := Lib.hid hba; clear hbx hba
              by_cases hf : befB (nth xs (k - 1)) (nth xs k) = true
              all_goals
                have hcn : cmpB (nth xs (k - 1)) (nth xs k) < 0 ↔ befB (nth xs (k - 1)) (nth xs k) = true := by
                  have := HCM.out
                  rw [Bool.eq_iff_iff] at this
                  simp only [decide_eq_true_eq, Bool.not_eq_true'] at this
                  cases h : befB (nth xs (k - 1)) (nth xs k) <;> simp [h] at this ⊢ <;> omega
                have HCN := Lib.hid hcn; clear hcn
              · have hlt0 : cmpB (nth xs (k - 1)) (nth xs k) < 0 := HCN.out.2 hf
                go_wp2
                have q0 := HBX.out.2 0 (by omega)
                have q1 := HBX.out.2 1 (by omega)
                have q2 := HBX.out.2 2 (by omega)
                simp only [el, if_true, if_false, Nat.one_ne_zero, Nat.reduceEqDiff] at q0 q1 q2
                have t0 := (HBA.out.cell (p := ⟨b1, o1 + k * 3, none⟩) hb1).trans p0
                have t3 := (HBA.out.cell (p := ⟨b1, o1 + (k - 1) * 3, none⟩) hb1).trans s0
                have t4 := (HBA.out.cell (p := ⟨b1, o1 + (k - 1) * 3 + 1, none⟩) hb1).trans s1
                have t5 := (HBA.out.cell (p := ⟨b1, o1 + (k - 1) * 3 + 2, none⟩) hb1).trans s2
                have z1 := HBX.out.1
                have z2 : b1 < _ := Nat.lt_of_lt_of_le hb1 HBA.out.size
                generalize wr.alloc _ = W at *
                refine wp_region_ge_lit (by kernel_rfl) (by kernel_rfl) ?_; (repeat (go_big_quiet_step (first | (go_at_call 151; exact ge_call (isBlock_any (nth xs k) v _ hv0 hv1)) | (go_at_call 152; exact ge_call (compare_any (nth xs (k - 1)) (nth xs k) _))))); refine wpQuiet_nil ?_
                rintro w1 ⟨x, rfl⟩
                go_wp2
                go_roundw
                case rel =>
                  refine ⟨k + 1, by omega, by go_num, below_up HB.out (below_up HBA.out (ge_below _ _)), fun j hj => ?_⟩
                  by_cases hjk : j < k
                  · exact HC.out j hjk
                  · obtain rfl : j = k := by omega
                    exact ⟨hg, fun _ => hf⟩
                case measure => simp [intOf]; omega
              · have hlt0 : 0 ≤ cmpB (nth xs (k - 1)) (nth xs k) := by
                  have := HCN.out
                  rcases Int.lt_or_le (cmpB (nth xs (k - 1)) (nth xs k)) 0 with h | h
                  · exact absurd (this.1 h) hf
                  · exact h
                go_wp2
                have q0 := HBX.out.2 0 (by omega)
                have q1 := HBX.out.2 1 (by omega)
                have q2 := HBX.out.2 2 (by omega)
                simp only [el, if_true, if_false, Nat.one_ne_zero, Nat.reduceEqDiff] at q0 q1 q2
                have t0 := (HBA.out.cell (p := ⟨b1, o1 + k * 3, none⟩) hb1).trans p0
                have t3 := (HBA.out.cell (p := ⟨b1, o1 + (k - 1) * 3, none⟩) hb1).trans s0
                have t4 := (HBA.out.cell (p := ⟨b1, o1 + (k - 1) * 3 + 1, none⟩) hb1).trans s1
                have t5 := (HBA.out.cell (p := ⟨b1, o1 + (k - 1) * 3 + 2, none⟩) hb1).trans s2
                have z1 := HBX.out.1
                have z2 : b1 < _ := Nat.lt_of_lt_of_le hb1 HBA.out.size
                generalize wr.alloc _ = W at *
                refine wp_region_ge_lit (by kernel_rfl) (by kernel_rfl) ?_; (repeat (go_big_quiet_step (first | (go_at_call 151; exact ge_call (isBlock_any (nth xs k) v _ hv0 hv1)) | (go_at_call 152; exact ge_call (compare_any (nth xs (k - 1)) (nth xs k) _))))); refine wpQuiet_nil ?_
                rintro w1 ⟨x, rfl⟩
                go_wp2
                go_ret
                exact ⟨ret_bool (isSysB_false fun h => absurd (HCN.out.2 ((h.2.2.1 k hlt).2 hk0)) (by omega)).symm, below_up HB.out (below_up HBA.out (ge_below _ _))⟩
            · obtain rfl : k = 0 := by omega
              rw [Nat.zero_mul, Nat.add_zero] at p0 p1 p2
              have HBX := Lib.hid hbx; have HBA := Lib.hid hba; clear hbx hba
              go_wp2
              have q0 := HBX.out.2 0 (by omega)
              have q1 := HBX.out.2 1 (by omega)
              have q2 := HBX.out.2 2 (by omega)
              simp only [el, if_true, if_false, Nat.one_ne_zero, Nat.reduceEqDiff] at q0 q1 q2
              have z1 := HBX.out.1
              generalize wr.alloc _ = W at *
              refine wp_region_ge_lit (by kernel_rfl) (by kernel_rfl) ?_; (repeat (go_big_quiet_step (first | (go_at_call 151; exact ge_call (isBlock_any (nth xs 0) v _ hv0 hv1))))); refine wpQuiet_nil ?_
              rintro w1 ⟨x, rfl⟩
              go_wp2
              go_roundw
              case rel =>
                refine ⟨1, by omega, rfl, below_up HB.out (below_up HBA.out (ge_below _ _)), fun j hj => ?_⟩
                obtain rfl : j = 0 := by omega
                exact ⟨hg, fun h => by omega⟩
              case measure => simp [intOf]; omega
          · have hg' : goodB v (nth xs k) = false := by simpa using hg
            have HBX := Lib.hid hbx; have HBA := Lib.hid hba; clear hbx hba hg
            go_wp2
            have q0 := HBX.out.2 0 (by omega)
            have q1 := HBX.out.2 1 (by omega)
            have q2 := HBX.out.2 2 (by omega)
            simp only [el, if_true, if_false, Nat.one_ne_zero, Nat.reduceEqDiff] at q0 q1 q2
            have z1 := HBX.out.1
            generalize wr.alloc _ = W at *
            refine wp_region_ge_lit (by kernel_rfl) (by kernel_rfl) ?_; (repeat (go_big_quiet_step (first | (go_at_call 151; exact ge_call (isBlock_any (nth xs k) v _ hv0 hv1))))); refine wpQuiet_nil ?_
            rintro w1 ⟨x, rfl⟩
            go_wp2
            go_ret
            exact ⟨ret_bool (isSysB_false fun h => by have := (h.2.2.1 k hlt).1; rw [hg'] at this; cases this).symm, below_up HB.out (below_up HBA.out (ge_below _ _))⟩
        · obtain rfl : k = xs.length := by omega
          have hgd : ∀ k, k < xs.length → goodB 15 (nth xs k) = true := fun k hk => good_mono (HC.out k hk).1 hv.2
          have HGD := Lib.hid hgd; clear hgd
          go_wp2_with (go_at_call 143; refine (gridOf_any A c xs _ (HA.out.below HB.out) hl HGD.out).mono ?_; rintro e w' ⟨ptr, rfl, hgo⟩)
          go_ret
          refine ⟨ret_bool ?_, below_up HB.out hgo.1⟩
          rw [Bool.eq_iff_iff, fitsB_iff, isSysB_iff]
          exact ⟨fun h => ⟨hv, h35, HC.out, h⟩, fun h => h.2.2.2⟩
    · have h35' : 35 < xs.length := by omega
      have hr := hnot (fun h => h35 h.2)
      clear hnot h35
      go_enter Try.func108, Try.ntmps108
      go_wp2_with (go_at_call 57; refine (within_any _ _ _ _).mono ?_; rintro e w' ⟨rfl, rfl⟩)
      go_ret
      exact ⟨ret_bool hr.symm, Below.refl _ _⟩
  · have hr := hnot (fun h => hv h.1)
    have hv' : decide (3 ≤ v ∧ v ≤ 15) = false := by simpa using hv
    clear hnot hv
    go_enter Try.func108, Try.ntmps108
    go_wp2_with (go_at_call 57; refine (within_any _ _ _ _).mono ?_; rintro e w' ⟨rfl, rfl⟩)
    go_ret
    exact ⟨ret_bool hr.symm, Below.refl _ _⟩

theorem IsSystem_any (v : Int) (A : Option Addr) (c : Nat) (xs : List Blk) (w : World) (hA : Bl w A xs) (hl : xs.length ≤ 1048576) :
    Calls Try.prog 56 #[.agg #[.int .i64 v, .slice A xs.length c]] w fun e w' => e = .returned (.bool (isSysB v xs)) ∧ Below w.heap.size w w' := by
  have HA := Lib.hid hA; clear hA
  go_enter Try.func56, Try.ntmps56
  go_wp2_with (go_at_call 108; refine (areBlocks_any v A c xs _ (HA.out.below (below_alloc _ _)) hl).mono ?_; rintro e w' ⟨rfl, hb⟩)
  go_ret
  exact ⟨ret_bool rfl, below_up (below_alloc _ _) hb⟩

end Go.Proofs.Ytbknpflbafjblaa

/- More words for lists in memory; conditions: none. -/
namespace Go.Proofs.Ytbknpflbafjblaa
open Go.RowKit

theorem Il.row {w : World} {g : Nat} {t : TypeId} {cur : Array Value} {xs : List Int} (h : Row w g t cur) (hc : ∀ k, k < xs.length → cur[k]? = some (.int .i64 (nthI xs k))) : Il w (some ⟨g, 0, none⟩) xs :=
  .inr ⟨g, 0, rfl, h.lt, fun k hk => by rw [Nat.zero_add]; exact (h.cell _).trans (hc k hk)⟩
theorem Il.new (w : World) (xs : List Int) (t : TypeId) : Il (w.alloc (.cells (xs.map (Value.int .i64)).toArray t)) (some ⟨w.heap.size, 0, none⟩) xs :=
  Il.row (Row.new _ _ _) fun k hk => by simp [nthI, hk]

theorem Il.new1 (w : World) (o : Obj) (xs : List Int) (t : TypeId) : Il ((w.alloc o).alloc (.cells (xs.map (Value.int .i64)).toArray t)) (some ⟨w.heap.size + 1, 0, none⟩) xs := by
  have := Il.new (w.alloc o) xs t
  rw [World.size_alloc] at this
  exact this

theorem own_below {w w' : World} {base : Nat} {t : TypeId} {size : Nat} {v : Value} {n : Nat} {xs : List Value} (h : w.ownsRow base t size v n xs) (hb : Below w.heap.size w w') : w'.ownsRow base t size v n xs :=
  h.kept (grown_below hb none) (by cases hv : v.ownBlock <;> simp)
theorem own_base {w : World} {base base' : Nat} {t : TypeId} {size : Nat} {v : Value} {n : Nat} {xs : List Value} (h : w.ownsRow base t size v n xs) (hb : base' ≤ base) : w.ownsRow base' t size v n xs := by
  refine ⟨h.1, ?_⟩
  rcases h.2 with h' | ⟨g, cap, cur, hv, hg, r⟩
  · exact .inl h'
  · exact .inr ⟨g, cap, cur, hv, Nat.le_trans hb hg, r⟩
theorem own_block {w : World} {base : Nat} {t : TypeId} {size : Nat} {v : Value} {n : Nat} {xs : List Value} (h : w.ownsRow base t size v n xs) : ∀ k, v.ownBlock = some k → base ≤ k := by
  intro k hk
  rcases h.2 with ⟨rfl, _⟩ | ⟨g, cap, cur, rfl, hg, _⟩
  · simp [Value.ownBlock] at hk
  · simp [Value.ownBlock] at hk; omega

theorem cells_new (w : World) (vs : List Value) (t : TypeId) : ∀ j u, vs[j]? = some u → (w.alloc (.cells vs.toArray t)).cell? ((⟨w.heap.size, 0, none⟩ : Addr).add j) = some u := by
  intro j u hj
  have : ((⟨w.heap.size, 0, none⟩ : Addr).add j) = ⟨w.heap.size, j, none⟩ := by unfold Addr.add; split <;> simp_all
  rw [this, (Row.new w t vs.toArray).cell j]
  simpa using hj
theorem Box.three {w : World} {r : Nat} {b : Blk} (h : Box w r b) : w.cell? ⟨r, 0, none⟩ = some (.int .i64 b.1) ∧ w.cell? ⟨r, 1, none⟩ = some (.int .i64 b.2.1) ∧ w.cell? ⟨r, 2, none⟩ = some (.int .i64 b.2.2) :=
  ⟨h.2 0 (by omega), h.2 1 (by omega), h.2 2 (by omega)⟩
/-- Two blocks boxed one after the other. -/
theorem Box.two (w : World) (a b : Blk) (t : TypeId) : Box ((w.alloc (.cells #[.int .i64 a.1, .int .i64 a.2.1, .int .i64 a.2.2] t)).alloc (.cells #[.int .i64 b.1, .int .i64 b.2.1, .int .i64 b.2.2] t)) w.heap.size a ∧
    Box ((w.alloc (.cells #[.int .i64 a.1, .int .i64 a.2.1, .int .i64 a.2.2] t)).alloc (.cells #[.int .i64 b.1, .int .i64 b.2.1, .int .i64 b.2.2] t)) (w.heap.size + 1) b ∧
    Below w.heap.size w ((w.alloc (.cells #[.int .i64 a.1, .int .i64 a.2.1, .int .i64 a.2.2] t)).alloc (.cells #[.int .i64 b.1, .int .i64 b.2.1, .int .i64 b.2.2] t)) := by
  refine ⟨(Box.new w a t).below (below_alloc _ _), ?_, below_up (below_alloc _ _) (below_alloc _ _)⟩
  have := Box.new (w.alloc (.cells #[.int .i64 a.1, .int .i64 a.2.1, .int .i64 a.2.2] t)) b t
  rw [World.size_alloc] at this
  exact this

/-- W is w but for what the call has made. -/
def Since (w W : World) : Prop := Below w.heap.size w W
theorem Since.below {w W wr : World} (h : Since w W) (h' : Below W.heap.size W wr) : Since w wr := below_up h h'
theorem Since.refl (w : World) : Since w w := Below.refl _ _
theorem Since.size {w W : World} (h : Since w W) : w.heap.size ≤ W.heap.size := Below.size h
def Own (w : World) (base : Nat) (t : TypeId) (size : Nat) (v : Value) (n : Nat) (xs : List Value) : Prop := w.ownsRow base t size v n xs
theorem Own.below {w w' : World} {base : Nat} {t : TypeId} {size : Nat} {v : Value} {n : Nat} {xs : List Value} (h : Own w base t size v n xs) (hb : Below w.heap.size w w') : Own w' base t size v n xs := own_below h hb
theorem Row.c2 {w : World} {g : Nat} {t : TypeId} {a b : Value} (h : Row w g t #[a, b]) : w.cell? ⟨g, 0, none⟩ = some a ∧ w.cell? ⟨g, 1, none⟩ = some b := ⟨h.cell 0, h.cell 1⟩
theorem below_drew (w : World) : Below w.heap.size w w.drew := ⟨rfl, rfl, rfl, Nat.le_refl _, fun _ _ => rfl⟩
/-- The own box of a struct parameter of two cells. -/
theorem Row.box (w : World) (t : TypeId) (a b : Value) : Row (w.alloc (.cells #[a, b] t)) w.heap.size t #[a, b] := heap_alloc_new w _

theorem own_slice {w : World} {base : Nat} {t : TypeId} {size : Nat} {v : Value} {n : Nat} {xs : List Value} (h : w.ownsRow base t size v n xs) : ∃ A c, v = .slice A n c := by
  rcases h.2 with ⟨rfl, rfl⟩ | ⟨g, cap, cur, rfl, _⟩
  · exact ⟨none, 0, rfl⟩
  · exact ⟨_, _, rfl⟩

end Go.Proofs.Ytbknpflbafjblaa

/- The contract of a function that returns a list of numbers and a code; conditions: none. -/
namespace Go.Proofs.Ytbknpflbafjblaa
open Go.RowKit

theorem own_empty (w : World) (t : TypeId) (size : Nat) : (w.alloc (.cells #[] t)).ownsRow w.heap.size t size (.slice (some ⟨w.heap.size, 0, none⟩) 0 0) 0 [] :=
  ⟨by simp, .inr ⟨w.heap.size, 0, #[], rfl, Nat.le_refl _, heap_alloc_new w _, Nat.le_refl _, by unfold maxLen; omega, by simp, by simp⟩⟩
/-- The call returned the numbers 'ns', in a row of its own, and 'k'. -/
def LP (w : World) (ns : List Int) (k : Int) (e : Ending) (w' : World) : Prop :=
  ∃ B d, e = .returned (.tuple #[.slice B ns.length d, .int .i64 k]) ∧ Own w' w.heap.size 2 1 (.slice B ns.length d) ns.length (ns.map (Value.int .i64)) ∧ Below w.heap.size w w'
theorem LP.mk {w w' : World} {u : Value} {ns ns' : List Int} {k k' : Int} (h : w'.ownsRow w.heap.size 2 1 u ns.length (ns.map (Value.int .i64))) (hn : ns' = ns) (hk : k' = k) (hb : Below w.heap.size w w') :
    LP w ns' k' (.returned (.tuple #[u, .int .i64 k])) w' := by
  subst hn hk
  obtain ⟨B, d, rfl⟩ := own_slice h
  exact ⟨B, d, rfl, h, hb⟩
theorem LP.nil {w w' : World} {ns : List Int} {k k' : Int} (hn : ns = []) (hk : k' = k) (hb : Below w.heap.size w w') :
    LP w ns k' (.returned (.tuple #[.slice none 0 0, .int .i64 k])) w' :=
  LP.mk (ns := []) (World.ownsRow_nil _ _ _ _) hn hk hb
/-- The same of a list alone. -/
def LP1 (w : World) (ns : List Int) (e : Ending) (w' : World) : Prop :=
  ∃ B d, e = .returned (.slice B ns.length d) ∧ Own w' w.heap.size 2 1 (.slice B ns.length d) ns.length (ns.map (Value.int .i64)) ∧ Below w.heap.size w w'
theorem LP1.mk {w w' : World} {u : Value} {ns ns' : List Int} (h : w'.ownsRow w.heap.size 2 1 u ns.length (ns.map (Value.int .i64))) (hn : ns' = ns) (hb : Below w.heap.size w w') :
    LP1 w ns' (.returned u) w' := by
  subst hn
  obtain ⟨B, d, rfl⟩ := own_slice h
  exact ⟨B, d, rfl, h, hb⟩

end Go.Proofs.Ytbknpflbafjblaa

/- Plain laws of systems: blocks differ, blocks meet. Conditions: none. -/
namespace Go.Proofs.Ytbknpflbafjblaa

theorem bef_trans {a b c : Blk} (h : befB a b = true) (h' : befB b c = true) : befB a c = true := by
  simp only [befB, decide_eq_true_eq] at *; omega
theorem bef_irrefl (a : Blk) : befB a a = false := by simp [befB]
theorem are_bef {v : Int} {bs : List Blk} (h : areB v bs) : ∀ j, j < bs.length → ∀ i, i < j → befB (nth bs i) (nth bs j) = true := by
  intro j
  induction j with
  | zero => intro _ i hi; omega
  | succ j ih =>
    intro hj i hi
    have h1 := (h (j + 1) hj).2 (by omega)
    rw [Nat.add_sub_cancel] at h1
    by_cases hij : i = j
    · subst hij; exact h1
    · exact bef_trans (ih (by omega) i (by omega)) h1
theorem are_inj {v : Int} {bs : List Blk} (h : areB v bs) {i j : Nat} (hi : i < bs.length) (hj : j < bs.length) (e : nth bs i = nth bs j) : i = j := by
  rcases Nat.lt_trichotomy i j with hlt | heq | hgt
  · have := are_bef h j hj i hlt; rw [e, bef_irrefl] at this; cases this
  · exact heq
  · have := are_bef h i hi j hgt; rw [e, bef_irrefl] at this; cases this
theorem eqB_iff {a b : Blk} : eqB a b = true ↔ a = b := by simp [eqB]

theorem comI_symm (a b : Blk) : comI a b = comI b a := by
  have h : ∀ x y : Int, one (x == y) = one (y == x) := by intro x y; rw [Bool.beq_comm]
  unfold comI
  rw [h a.1 b.1, h a.1 b.2.1, h a.1 b.2.2, h a.2.1 b.1, h a.2.1 b.2.1, h a.2.1 b.2.2, h a.2.2 b.1, h a.2.2 b.2.1, h a.2.2 b.2.2]
  omega
theorem meet_iff (a : Blk) {b : Blk} {v : Int} (hg : goodB v b = true) : meetB a b = true ↔ comI a b > 0 := by
  rw [comI_count a hg]
  unfold meetB
  cases hasB b a.1 <;> cases hasB b a.2.1 <;> cases hasB b a.2.2 <;> simp [one]

/-- the blocks that neither are a or b and meet both -/
def neighP (a b : Blk) (c : Blk) : Bool := !eqB c a && !eqB c b && meetB c a && meetB c b
def neighN (xs : List Blk) (i k : Nat) : Nat → Int
  | 0 => 0
  | j + 1 => neighN xs i k j + (if j ≠ i ∧ j ≠ k ∧ comI (nth xs i) (nth xs j) > 0 ∧ comI (nth xs k) (nth xs j) > 0 then 1 else 0)
theorem neighN_bd (xs : List Blk) (i k j : Nat) : 0 ≤ neighN xs i k j ∧ neighN xs i k j ≤ j := by
  induction j with
  | zero => simp [neighN]
  | succ j ih => simp only [neighN]; split <;> omega

theorem neigh_nums {v : Int} {xs : List Blk} (h : areB v xs) {i k : Nat} (hi : i < xs.length) (hk : k < xs.length) : ∀ n, n ≤ xs.length → ((numsN (neighP (nth xs i) (nth xs k)) xs n).length : Int) = neighN xs i k n := by
  intro n
  induction n with
  | zero => intro _; rfl
  | succ n ih =>
    intro hn
    simp only [numsN, neighN, List.length_append]
    rw [Int.natCast_add, ih (by omega)]
    have gi := (h i hi).1; have gk := (h k hk).1
    have key : neighP (nth xs i) (nth xs k) (nth xs n) = true ↔ (n ≠ i ∧ n ≠ k ∧ comI (nth xs i) (nth xs n) > 0 ∧ comI (nth xs k) (nth xs n) > 0) := by
      unfold neighP
      simp only [Bool.and_eq_true, Bool.not_eq_true', meet_iff _ gi, meet_iff _ gk, comI_symm (nth xs n)]
      have e1 : eqB (nth xs n) (nth xs i) = false ↔ n ≠ i := by
        rw [← Bool.not_eq_true, eqB_iff]
        exact ⟨fun h' e => h' (by rw [e]), fun h' e => h' (are_inj h (by omega) hi e)⟩
      have e2 : eqB (nth xs n) (nth xs k) = false ↔ n ≠ k := by
        rw [← Bool.not_eq_true, eqB_iff]
        exact ⟨fun h' e => h' (by rw [e]), fun h' e => h' (are_inj h (by omega) hk e)⟩
      rw [e1, e2]
      simp only [and_assoc]
    by_cases hp : neighP (nth xs i) (nth xs k) (nth xs n) = true
    · rw [if_pos hp, if_pos (key.1 hp)]; rfl
    · rw [if_neg hp, if_neg (fun h' => hp (key.2 h'))]; rfl

end Go.Proofs.Ytbknpflbafjblaa

/- Plain laws of the blocks of some points that are such, in order. Conditions: none. -/
namespace Go.Proofs.Ytbknpflbafjblaa

/-- the blocks a, b, c with b < c < m that are such -/
def csT (p : Blk → Bool) (a b : Nat) : Nat → List Blk
  | 0 => []
  | m + 1 => csT p a b m ++ (if b < m ∧ p ((a : Int), (b : Int), (m : Int)) = true then [((a : Int), (b : Int), (m : Int))] else [])
def bsT (p : Blk → Bool) (n a : Nat) : Nat → List Blk
  | 0 => []
  | m + 1 => bsT p n a m ++ (if a < m then csT p a m n else [])
def asT (p : Blk → Bool) (n : Nat) : Nat → List Blk
  | 0 => []
  | m + 1 => asT p n m ++ bsT p n m n
def triL (p : Blk → Bool) (n : Nat) : List Blk := asT p n n

theorem csT_nil (p : Blk → Bool) (a b : Nat) : ∀ m, m ≤ b + 1 → csT p a b m = [] := by
  intro m
  induction m with
  | zero => intro _; rfl
  | succ m ih => intro h; rw [csT, ih (by omega), if_neg (by omega)]; rfl
theorem bsT_nil (p : Blk → Bool) (n a : Nat) : ∀ m, m ≤ a + 1 → bsT p n a m = [] := by
  intro m
  induction m with
  | zero => intro _; rfl
  | succ m ih => intro h; rw [bsT, ih (by omega), if_neg (by omega)]; rfl
theorem csT_len (p : Blk → Bool) (a b m : Nat) : (csT p a b m).length ≤ m := by
  induction m with
  | zero => simp [csT]
  | succ m ih => simp only [csT]; split <;> simp <;> omega
theorem bsT_len (p : Blk → Bool) {n : Nat} (hn : n ≤ 15) (a m : Nat) : (bsT p n a m).length ≤ 15 * m := by
  induction m with
  | zero => simp [bsT]
  | succ m ih =>
    have := csT_len p a m n
    simp only [bsT]; split <;> simp <;> omega
theorem asT_len (p : Blk → Bool) {n : Nat} (hn : n ≤ 15) (m : Nat) : (asT p n m).length ≤ 225 * m := by
  induction m with
  | zero => simp [asT]
  | succ m ih =>
    have := bsT_len p hn m n
    simp only [asT, List.length_append]; omega
theorem triL_len (p : Blk → Bool) {n : Nat} (hn : n ≤ 15) : (triL p n).length ≤ 3375 := by
  have := asT_len p hn n
  unfold triL; omega

theorem csT_congr {p q : Blk → Bool} {a b n : Nat} (h : ∀ c, b < c → c < n → p ((a : Int), (b : Int), (c : Int)) = q ((a : Int), (b : Int), (c : Int))) : ∀ m, m ≤ n → csT p a b m = csT q a b m := by
  intro m
  induction m with
  | zero => intro _; rfl
  | succ m ih =>
    intro hm
    rw [csT, csT, ih (by omega)]
    by_cases hb : b < m
    · rw [h m hb (by omega)]
    · rw [if_neg (by omega), if_neg (by omega)]
theorem triL_congr {p q : Blk → Bool} {n : Nat} (h : ∀ a b c : Nat, a < b → b < c → c < n → p ((a : Int), (b : Int), (c : Int)) = q ((a : Int), (b : Int), (c : Int))) : triL p n = triL q n := by
  have hb : ∀ a m, m ≤ n → bsT p n a m = bsT q n a m := by
    intro a m
    induction m with
    | zero => intro _; rfl
    | succ m ih =>
      intro hm
      rw [bsT, bsT, ih (by omega)]
      by_cases ha : a < m
      · rw [if_pos ha, if_pos ha, csT_congr (fun c h1 h2 => h a m c ha h1 h2) n (Nat.le_refl _)]
      · rw [if_neg ha, if_neg ha]
  have ha : ∀ m, m ≤ n → asT p n m = asT q n m := by
    intro m
    induction m with
    | zero => intro _; rfl
    | succ m ih => intro hm; rw [asT, asT, ih (by omega), hb m n (Nat.le_refl _)]
  exact ha n (Nat.le_refl _)

/-- whether a block fits to all blocks -/
noncomputable def freeB (xs : List Blk) (b : Blk) : Bool := open Classical in decide (∀ i, i < xs.length → comI (nth xs i) b ≤ 1)
theorem freeB_true {xs : List Blk} {b : Blk} (h : ∀ i, i < xs.length → comI (nth xs i) b ≤ 1) : freeB xs b = true := by unfold freeB; simpa using h
theorem freeB_false {xs : List Blk} {b : Blk} (h : ¬ ∀ i, i < xs.length → comI (nth xs i) b ≤ 1) : freeB xs b = false := by unfold freeB; simpa using h
theorem freeB_left {v : Int} {xs : List Blk} {b : Blk} (hs : isSys v xs) (hb : goodB 15 b = true) : leftB (gridN xs xs.length) b = freeB xs b := by
  have hg : ∀ j, j < xs.length → goodB 15 (nth xs j) = true := fun j hj => good_mono (hs.2.2.1 j hj).1 hs.1.2
  rw [Bool.eq_iff_iff, left_iff hg hb]
  constructor
  · intro h; exact freeB_true fun i hi => by rw [comI_symm]; exact h i hi
  · intro h j hj
    by_cases hf : ∀ i, i < xs.length → comI (nth xs i) b ≤ 1
    · rw [comI_symm]; exact hf j hj
    · rw [freeB_false hf] at h; cases h

end Go.Proofs.Ytbknpflbafjblaa

/- Contracts of the walk through all blocks that are such; conditions: stated in each. -/
namespace Go.Proofs.Ytbknpflbafjblaa
open Go.RowKit
set_option maxHeartbeats 400000
set_option maxRecDepth 100000
set_option linter.unusedSimpArgs false
set_option linter.unusedVariables false

theorem infoBlk' : (Try.prog.info? 99).map (fun i => (i.zero, i.size, i.bytes)) = some (some (.agg #[.int .i64 0, .int .i64 0, .int .i64 0]), 3, 24) := by kernel_rfl
/-- the cells of blocks -/
def cells3' (xs : List Blk) : List Value := xs.flatMap fun b => [.int .i64 b.1, .int .i64 b.2.1, .int .i64 b.2.2]
theorem cells3'_app (xs ys : List Blk) : cells3' (xs ++ ys) = cells3' xs ++ cells3' ys := by simp [cells3']
/-- u is a row of its own that holds the blocks -/
def OB (w : World) (base : Nat) (u : Value) (xs : List Blk) : Prop := w.ownsRow base 99 3 u xs.length (cells3' xs)
theorem OB.below {w w' : World} {base : Nat} {u : Value} {xs : List Blk} (h : OB w base u xs) (hb : Below w.heap.size w w') : OB w' base u xs := own_below h hb
theorem OB.base {w : World} {base base' : Nat} {u : Value} {xs : List Blk} (h : OB w base u xs) (hb : base' ≤ base) : OB w base' u xs := own_base h hb
theorem OB.snoc {w : World} {base : Nat} {u : Value} {xs : List Blk} {b : Blk} (h : w.ownsRow base 99 3 u (xs.length + 1) (cells3' xs ++ [.int .i64 b.1, .int .i64 b.2.1, .int .i64 b.2.2])) : OB w base u (xs ++ [b]) := by
  unfold OB; rw [cells3'_app, List.length_append]; exact h

theorem triples_any (n : Nat) (g : Nat) (fa la : Array Value) (p : Blk → Bool) (w : World) (hn : n ≤ 15)
    (eg : ∀ args w, (callFunc g args).run Try.prog w = .ok (.enter g args) w)
    (hp : ∀ (W : World) (b : Blk), goodB n b = true → Below w.heap.size w W → Calls Try.prog g (fa ++ #[.agg #[.int .i64 b.1, .int .i64 b.2.1, .int .i64 b.2.2]] ++ la) W fun e w' => e = .returned (.bool (p b)) ∧ Below W.heap.size W w') :
    Calls Try.prog 144 #[.int .i64 n, .func (.func g) fa la] w fun e w' => ∃ u, e = .returned u ∧ OB w' w.heap.size u (triL p n) ∧ Below w.heap.size w w' := by
  obtain ⟨bi0, hbi, hbi0, hbi1, hbi2⟩ := info_parts infoBlk'
  have HP := Lib.hid hp; clear hp
  go_enter Try.func144, Try.ntmps144
  go_wp2
  go_loopw [5, 10] (fun u i wr => ∃ k : Nat, k ≤ n ∧ i = .int .i64 k ∧ Hid (Below w.heap.size w wr ∧ OB wr w.heap.size u (asT p n k))) (fun _ i _ => n - (intOf i).toNat)
  case atStart => exact ⟨0, by omega, rfl, Below.refl _ _, World.ownsRow_nil _ _ _ _⟩
  case round =>
    obtain ⟨k, hk, rfl, HC⟩ := hrel
    by_cases hlt : k < n
    · go_wp2
      obtain ⟨wo, rfl⟩ : ∃ wo : World, wo = wr := ⟨_, rfl⟩
      go_loopw [5, 7] (fun u i wr => ∃ j : Nat, k + 1 ≤ j ∧ j ≤ n ∧ i = .int .i64 j ∧ Hid (Below w.heap.size w wr ∧ OB wr w.heap.size u (asT p n k ++ bsT p n k j))) (fun _ i _ => n - (intOf i).toNat)
      case atStart => exact ⟨k + 1, by omega, by omega, by go_num, HC.out.1, by rw [bsT_nil p n k _ (Nat.le_refl _), List.append_nil]; exact HC.out.2⟩
      case round =>
        obtain ⟨j, hj1, hj2, rfl, HC⟩ := hrel
        by_cases hlt2 : j < n
        · go_wp2
          obtain ⟨wo, rfl⟩ : ∃ wo : World, wo = wr := ⟨_, rfl⟩
          go_loopw [5, 8] (fun u i wr => ∃ m : Nat, j + 1 ≤ m ∧ m ≤ n ∧ i = .int .i64 m ∧ Hid (Below w.heap.size w wr ∧ OB wr w.heap.size u (asT p n k ++ bsT p n k j ++ csT p k j m))) (fun _ i _ => n - (intOf i).toNat)
          case atStart => exact ⟨j + 1, by omega, by omega, by go_num, HC.out.1, by rw [csT_nil p k j _ (Nat.le_refl _), List.append_nil]; exact HC.out.2⟩
          case round =>
            obtain ⟨m, hm1, hm2, rfl, HC⟩ := hrel
            by_cases hlt3 : m < n
            · have HG : Hid (goodB n ((k : Int), (j : Int), (m : Int)) = true) := by unfold Hid goodB; simp; omega
              go_wp2_with fail
              refine (HP.out _ ((k : Int), (j : Int), (m : Int)) HG.out HC.out.1).mono ?_
              rintro e w1 ⟨rfl, hb⟩
              have HB2 : Hid (Below w.heap.size w w1) := below_up HC.out.1 hb
              have HO : Hid (w1.ownsRow w.heap.size 99 3 u5 (asT p n k ++ bsT p n k j ++ csT p k j m).length (cells3' (asT p n k ++ bsT p n k j ++ csT p k j m))) := HC.out.2.below hb
              clear hb
              have HN : Hid (csT p k j (m + 1) = csT p k j m ++ (if j < m ∧ p ((k : Int), (j : Int), (m : Int)) = true then [((k : Int), (j : Int), (m : Int))] else [])) := rfl
              cases hpk : p ((k : Int), (j : Int), (m : Int))
              · go_wp2
                go_roundw
                case rel => exact ⟨m + 1, by omega, by omega, by go_num, HB2.out, by rw [HN.out, if_neg (by simp [hpk]), List.append_nil]; exact HO.out⟩
                case measure => simp [intOf]; omega
              · have hlen : (asT p n k ++ bsT p n k j ++ csT p k j m).length ≤ 4000 := by
                  have h1 := asT_len p hn k; have h2 := bsT_len p hn k j; have h3 := csT_len p k j m
                  simp only [List.length_append]; omega
                have hbw_ := HB2.out.size; go_wp2_with (at_builtin; refine wpList_append_own _ rfl _ _ 28 rfl (w).heap.size 99 bi0 (.agg #[.int .i64 0, .int .i64 0, .int .i64 0]) 3 24 Try.underlying28 hbi hbi0 hbi1 hbi2 rfl (by decide) _ _ _ rfl (HO.out.alloc _) ⟨(w1).heap.size, 0, none⟩ 1 1 [.int .i64 ((k : Int)), .int .i64 ((j : Int)), .int .i64 ((m : Int))] rfl rfl (cells_new _ _ _) (by simp [Value.oneCell']) (by unfold maxLen; omega) (by omega) (by simp; omega) ?_; intro v2 w2 hown2 hg2 _); have HO2 := Lib.hid hown2; have HB3 : Hid (Below (w).heap.size (w) w2) := (HB2.out.alloc HB2.out.size _).grown hg2 (by simp; omega) (own_block HO.out); clear hown2 hg2 hbw_
                go_wp2
                go_roundw
                case rel => exact ⟨m + 1, by omega, by omega, by go_num, HB3.out, by rw [HN.out, if_pos ⟨by omega, hpk⟩, ← List.append_assoc]; exact OB.snoc (b := ((k : Int), (j : Int), (m : Int))) HO2.out⟩
                case measure => simp [intOf]; omega
            · obtain rfl : m = n := by omega
              go_wp2
              go_roundw
              case rel => exact ⟨j + 1, by omega, by omega, by go_num, HC.out.1, by rw [bsT, if_pos (by omega), ← List.append_assoc]; exact HC.out.2⟩
              case measure => simp [intOf]; omega
        · obtain rfl : j = n := by omega
          go_wp2
          go_roundw
          case rel => exact ⟨k + 1, by omega, by go_num, HC.out.1, by rw [asT]; exact HC.out.2⟩
          case measure => simp [intOf]; omega
    · obtain rfl : k = n := by omega
      go_wp2
      go_ret
      exact ⟨_, rfl, HC.out.2, HC.out.1⟩

theorem l01Free_any (v : Int) (A : Option Addr) (c : Nat) (xs : List Blk) (b : Blk) (w : World) (hA : Bl w A xs) (hl : xs.length ≤ 1048576) :
    Calls Try.prog 93 #[.agg #[.int .i64 v, .slice A xs.length c], .agg #[.int .i64 b.1, .int .i64 b.2.1, .int .i64 b.2.2]] w fun e w' => e = .returned (.bool (freeB xs b)) ∧ Below w.heap.size w w' := by
  have HR := Lib.hid ((Row.box w 30 (.int .i64 v) (.slice A xs.length c)).below (below_alloc _ (.cells #[.int .i64 b.1, .int .i64 b.2.1, .int .i64 b.2.2] 99)))
  have HX := Lib.hid (Box.new (w.alloc (.cells #[.int .i64 v, .slice A xs.length c] 30)) b 99)
  rw [World.size_alloc] at HX
  have HW := Lib.hid (below_up (below_alloc w (.cells #[.int .i64 v, .slice A xs.length c] 30)) (below_alloc _ (.cells #[.int .i64 b.1, .int .i64 b.2.1, .int .i64 b.2.2] 99)))
  have HA := Lib.hid (hA.below HW.out)
  clear hA
  go_enter Try.func93, Try.ntmps93
  go_wp2
  generalize (w.alloc _).alloc _ = W at *
  go_loopw [5] (fun i wr => ∃ k : Nat, k ≤ xs.length ∧ i = .int .i64 k ∧ Below W.heap.size W wr ∧ Hid (∀ i, i < k → comI (nth xs i) b ≤ 1)) (fun i _ => xs.length - (intOf i).toNat)
  case atStart => exact ⟨0, by omega, rfl, Below.refl _ _, fun i hi => by omega⟩
  case round =>
    obtain ⟨k, hk, rfl, hb, HC⟩ := hrel
    obtain ⟨c0, c1⟩ := (HR.out.below hb).c2
    obtain ⟨x0, x1, x2⟩ := (HX.out.below hb).three
    have hsz := (HR.out.below hb).lt
    have hsz2 := (HX.out.below hb).1
    by_cases hlt : k < xs.length
    · obtain ⟨b1, o1, hA1, hb1, p0, p1, p2⟩ := (HA.out.below hb).at_ hlt
      subst hA1
      have cb := comI_bd (nth xs k) b
      by_cases hc : comI (nth xs k) b ≤ 1
      · have hc' : decide (1 < comI (nth xs k) b) = false := by simpa using hc
        go_wp2
        refine wp_region_ge_lit (by kernel_rfl) (by kernel_rfl) ?_; (repeat (go_big_quiet_step ((go_at_call 141; exact ge_call (l01Common_any (nth xs k) b _))))); refine wpQuiet_nil ?_
        rintro w1 ⟨x, rfl⟩
        go_wp2
        go_roundw
        case rel =>
          refine ⟨k + 1, by omega, by go_num, below_up hb (ge_below _ _), fun i hi => ?_⟩
          by_cases hij : i < k
          · exact HC.out i hij
          · obtain rfl : i = k := by omega
            exact hc
        case measure => simp [intOf]; omega
      · have hc' : 1 < comI (nth xs k) b := by omega
        clear hc
        go_wp2
        refine wp_region_ge_lit (by kernel_rfl) (by kernel_rfl) ?_; (repeat (go_big_quiet_step ((go_at_call 141; exact ge_call (l01Common_any (nth xs k) b _))))); refine wpQuiet_nil ?_
        rintro w1 ⟨x, rfl⟩
        go_wp2
        go_ret
        exact ⟨ret_bool (freeB_false fun h => absurd (h k hlt) (by omega)).symm, below_up HW.out (below_up hb (ge_below _ _))⟩
    · obtain rfl : k = xs.length := by omega
      go_wp2
      go_ret
      exact ⟨ret_bool (freeB_true HC.out).symm, below_up HW.out hb⟩

theorem l01Rest_any (n : Nat) (A : Option Addr) (c : Nat) (xs : List Blk) (w : World) (hn : n ≤ 15) (hA : Bl w A xs) (hl : xs.length ≤ 1048576) :
    Calls Try.prog 91 #[.agg #[.int .i64 n, .slice A xs.length c]] w fun e w' => ∃ u, e = .returned u ∧ OB w' w.heap.size u (triL (freeB xs) n) ∧ Below w.heap.size w w' := by
  obtain ⟨bi0, hbi, hbi0, hbi1, hbi2⟩ := info_parts infoBlk'
  have HA := Lib.hid (hA.below (below_alloc w (.cells #[.int .i64 n, .slice A xs.length c] 30)))
  have HR := Lib.hid (Row.box w 30 (.int .i64 n) (.slice A xs.length c))
  have HW := Lib.hid (below_alloc w (.cells #[.int .i64 n, .slice A xs.length c] 30))
  clear hA
  go_enter Try.func91, Try.ntmps91
  go_wp2
  have HSZ : Hid ((w.alloc (.cells #[.int .i64 n, .slice A xs.length c] 30)).heap.size = w.heap.size + 1) := World.size_alloc _ _
  generalize w.alloc _ = W at *
  generalize hp : freeB xs = p at *
  go_loopw [3, 4] (fun u i wr => ∃ k : Nat, k ≤ n ∧ i = .int .i64 k ∧ Hid (Below W.heap.size W wr ∧ OB wr W.heap.size u (asT p n k))) (fun _ i _ => n - (intOf i).toNat)
  case atStart => exact ⟨0, by omega, rfl, below_alloc _ _, by rw [← HSZ.out]; exact own_empty _ _ _⟩
  case round =>
    obtain ⟨k, hk, rfl, HC⟩ := hrel
    obtain ⟨c0, c1⟩ := (HR.out.below HC.out.1).c2
    by_cases hlt : k < n
    · go_wp2
      obtain ⟨wo, rfl⟩ : ∃ wo : World, wo = wr := ⟨_, rfl⟩
      clear c0 c1
      go_loopw [3, 5] (fun u i wr => ∃ j : Nat, k + 1 ≤ j ∧ j ≤ n ∧ i = .int .i64 j ∧ Hid (Below W.heap.size W wr ∧ OB wr W.heap.size u (asT p n k ++ bsT p n k j))) (fun _ i _ => n - (intOf i).toNat)
      case atStart => exact ⟨k + 1, by omega, by omega, by go_num, HC.out.1, by rw [bsT_nil p n k _ (Nat.le_refl _), List.append_nil]; exact HC.out.2⟩
      case round =>
        obtain ⟨j, hj1, hj2, rfl, HC⟩ := hrel
        obtain ⟨c0, c1⟩ := (HR.out.below HC.out.1).c2
        by_cases hlt2 : j < n
        · go_wp2
          obtain ⟨wo, rfl⟩ : ∃ wo : World, wo = wr := ⟨_, rfl⟩
          clear c0 c1
          go_loopw [3, 6] (fun u i wr => ∃ m : Nat, j + 1 ≤ m ∧ m ≤ n ∧ i = .int .i64 m ∧ Hid (Below W.heap.size W wr ∧ OB wr W.heap.size u (asT p n k ++ bsT p n k j ++ csT p k j m))) (fun _ i _ => n - (intOf i).toNat)
          case atStart => exact ⟨j + 1, by omega, by omega, by go_num, HC.out.1, by rw [csT_nil p k j _ (Nat.le_refl _), List.append_nil]; exact HC.out.2⟩
          case round =>
            obtain ⟨m, hm1, hm2, rfl, HC⟩ := hrel
            obtain ⟨c0, c1⟩ := (HR.out.below HC.out.1).c2
            by_cases hlt3 : m < n
            · go_wp2_with fail
              refine (l01Free_any n A c xs ((k : Int), (j : Int), (m : Int)) _ (HA.out.below HC.out.1) hl).mono ?_
              rw [hp]
              rintro e w1 ⟨rfl, hb⟩
              have HB2 : Hid (Below W.heap.size W w1) := below_up HC.out.1 hb
              have HO : Hid (w1.ownsRow W.heap.size 99 3 u3 (asT p n k ++ bsT p n k j ++ csT p k j m).length (cells3' (asT p n k ++ bsT p n k j ++ csT p k j m))) := HC.out.2.below hb
              clear hb
              have HN : Hid (csT p k j (m + 1) = csT p k j m ++ (if j < m ∧ p ((k : Int), (j : Int), (m : Int)) = true then [((k : Int), (j : Int), (m : Int))] else [])) := rfl
              cases hpk : p ((k : Int), (j : Int), (m : Int))
              · go_wp2
                go_roundw
                case rel => exact ⟨m + 1, by omega, by omega, by go_num, HB2.out, by rw [HN.out, if_neg (by simp [hpk]), List.append_nil]; exact HO.out⟩
                case measure => simp [intOf]; omega
              · have hlen : (asT p n k ++ bsT p n k j ++ csT p k j m).length ≤ 4000 := by
                  have h1 := asT_len p hn k; have h2 := bsT_len p hn k j; have h3 := csT_len p k j m
                  simp only [List.length_append]; omega
                have hbw_ := HB2.out.size; go_wp2_with (at_builtin; refine wpList_append_own _ rfl _ _ 28 rfl (W).heap.size 99 bi0 (.agg #[.int .i64 0, .int .i64 0, .int .i64 0]) 3 24 Try.underlying28 hbi hbi0 hbi1 hbi2 rfl (by decide) _ _ _ rfl (HO.out.alloc _) ⟨(w1).heap.size, 0, none⟩ 1 1 [.int .i64 ((k : Int)), .int .i64 ((j : Int)), .int .i64 ((m : Int))] rfl rfl (cells_new _ _ _) (by simp [Value.oneCell']) (by unfold maxLen; omega) (by omega) (by simp; omega) ?_; intro v2 w2 hown2 hg2 _); have HO2 := Lib.hid hown2; have HB3 : Hid (Below (W).heap.size (W) w2) := (HB2.out.alloc HB2.out.size _).grown hg2 (by simp; omega) (own_block HO.out); clear hown2 hg2 hbw_
                go_wp2
                go_roundw
                case rel => exact ⟨m + 1, by omega, by omega, by go_num, HB3.out, by rw [HN.out, if_pos ⟨by omega, hpk⟩, ← List.append_assoc]; exact OB.snoc (b := ((k : Int), (j : Int), (m : Int))) HO2.out⟩
                case measure => simp [intOf]; omega
            · obtain rfl : m = n := by omega
              go_wp2
              go_roundw
              case rel => exact ⟨j + 1, by omega, by omega, by go_num, HC.out.1, by rw [bsT, if_pos (by omega), ← List.append_assoc]; exact HC.out.2⟩
              case measure => simp [intOf]; omega
        · obtain rfl : j = n := by omega
          go_wp2
          go_roundw
          case rel => exact ⟨k + 1, by omega, by go_num, HC.out.1, by rw [asT]; exact HC.out.2⟩
          case measure => simp [intOf]; omega
    · obtain rfl : k = n := by omega
      go_wp2
      go_ret
      exact ⟨u3, rfl, by rw [hp]; exact HC.out.2.base HW.out.size, below_up HW.out HC.out.1⟩

end Go.Proofs.Ytbknpflbafjblaa

/- Contracts for IsStuck, of the reference and of the program; conditions: stated in each. -/
namespace Go.Proofs.Ytbknpflbafjblaa
open Go.RowKit
set_option maxHeartbeats 400000
set_option maxRecDepth 100000
set_option linter.unusedSimpArgs false
set_option linter.unusedVariables false

theorem grid_any (v : Int) (A : Option Addr) (c : Nat) (xs : List Blk) (w : World) (hA : Bl w A xs) (hl : xs.length ≤ 1048576) (hs : isSys v xs) :
    Calls Try.prog 95 #[.agg #[.int .i64 v, .slice A xs.length c]] w fun e w' => ∃ g, e = .returned (.pointer (some ⟨g, 0, none⟩)) ∧ w.heap.size ≤ g ∧ Gr w' g (gridN xs xs.length) ∧ Below w.heap.size w w' := by
  have hg : ∀ j, j < xs.length → goodB 15 (nth xs j) = true := fun j hj => good_mono (hs.2.2.1 j hj).1 hs.1.2
  have HG := Lib.hid hg; have HF := Lib.hid hs.2.2.2
  clear hg hs
  have HA := Lib.hid hA; clear hA; have HR := Lib.hid (Row.box w 30 (.int .i64 v) (.slice A xs.length c)); have HW := Lib.hid (Since.refl w); go_enter Try.func95, Try.ntmps95; go_wp2_with fail; replace HA := Lib.hid (HA.out.below (below_alloc _ (.cells #[.int .i64 v, .slice A xs.length c] 30))); replace HW := Lib.hid (HW.out.below (below_alloc _ (.cells #[.int .i64 v, .slice A xs.length c] 30)))
  refine (gridOf_any A c xs _ HA.out hl HG.out).mono ?_
  rintro e w_ ⟨ptr, rfl, hb, hgr⟩
  obtain ⟨g, rfl, hle, hGr⟩ := hgr HF.out
  have HGr := Lib.hid hGr; have HLE := Lib.hid hle
  clear hgr hGr hle
  have HSZ := Lib.hid HW.out.size
  replace HW := Lib.hid (HW.out.below hb); clear hb
  go_wp2
  go_ret
  exact ⟨g, rfl, Nat.le_trans HSZ.out HLE.out, HGr.out, HW.out⟩

theorem free_any (v : Int) (A : Option Addr) (c : Nat) (xs : List Blk) (w : World) (hA : Bl w A xs) (hl : xs.length ≤ 1048576) (hs : isSys v xs) :
    Calls Try.prog 97 #[.agg #[.int .i64 v, .slice A xs.length c]] w fun e w' => ∃ u, e = .returned u ∧ OB w' w.heap.size u (triL (freeB xs) v.toNat) ∧ Below w.heap.size w w' := by
  have hv3 := hs.1.1; have hv15 := hs.1.2
  obtain ⟨n, rfl⟩ := Int.eq_ofNat_of_zero_le (by omega : 0 ≤ v)
  have HS := Lib.hid hs
  have hcg : triL (leftB (gridN xs xs.length)) n = triL (freeB xs) n := triL_congr fun a b d h1 h2 h3 => freeB_left hs (by simp [goodB]; omega)
  have HCG := Lib.hid hcg
  have HA := Lib.hid (hA.below (below_alloc w (.cells #[.int .i64 n, .slice A xs.length c] 30)))
  have HR := Lib.hid (Row.box w 30 (.int .i64 n) (.slice A xs.length c))
  have HW := Lib.hid (below_alloc w (.cells #[.int .i64 n, .slice A xs.length c] 30))
  clear hs hcg hA
  go_enter Try.func97, Try.ntmps97
  go_wp2_with fail
  obtain ⟨c0, c1⟩ := HR.out.c2
  have HKEEP := Lib.hid (And.intro c0 c1)
  clear c0 c1
  go_region_held3 (fun w' => w'.cell? ⟨w.heap.size, 0, none⟩ = some (.int .i64 n) ∧ w'.cell? ⟨w.heap.size, 1, none⟩ = some (.slice A xs.length c)) (first | exact HKEEP.out) (first
     | (go_at_call 95
        refine (grid_any n A c xs _ (HA.out.below (below_drew _)) hl HS.out).mono ?_
        rintro e w_ ⟨g, rfl, hle, hGr, hb⟩
        have HGr := Lib.hid hGr; have HLE := Lib.hid hle
        have HSZ := Lib.hid HW.out.size
        replace HW := Lib.hid (below_up HW.out (below_up (below_drew _) hb))
        replace HR := Lib.hid ((HR.out.below (below_drew _)).below hb)
        replace HKEEP := Lib.hid HR.out.c2
        clear hb hGr hle)
     | (go_at_call 144
        refine (triples_any n 98 #[.pointer (some ⟨g, 0, none⟩)] #[] (leftB (gridN xs xs.length)) _ (by omega) (fun args w => by kernel_rfl)
          (fun W b hgd hb => isLeft_any g _ b W (HGr.out.below hb) (good_mono hgd (by omega)))).mono ?_
        rw [HCG.out]
        rintro e w_ ⟨u, rfl, hO, hb⟩
        have HO := Lib.hid (hO.base HW.out.size)
        replace HW := Lib.hid (below_up HW.out hb)
        replace HR := Lib.hid (HR.out.below hb)
        replace HKEEP := Lib.hid HR.out.c2
        clear hb hO))
  all_goals
    go_wp2
    go_ret
    exact ⟨u, rfl, HO.out, HW.out⟩

/-- IsStuck's answer -/
noncomputable def stuckR (v : Int) (xs : List Blk) : Bool × Int := if isSysB v xs = true then (((triL (freeB xs) v.toNat).length : Int) == 0, 0) else (false, 1)

end Go.Proofs.Ytbknpflbafjblaa

/- Plain laws of third points: a grid's cell is the third point of a list. Conditions: none. -/
namespace Go.Proofs.Ytbknpflbafjblaa

def bothB (b : Blk) (p q : Int) : Bool := hasB b p && hasB b q
theorem third_at (p q : Int) : ∀ (xs : List Blk) (i : Nat), i < xs.length → bothB (nth xs i) p q = true → (∀ j, j < i → bothB (nth xs j) p q = false) → third xs p q = sumB (nth xs i) - p - q := by
  intro xs
  induction xs with
  | nil => intro i hi; simp at hi
  | cons b bs ih =>
    intro i hi hb hf
    cases i with
    | zero =>
      have : (hasB b p && hasB b q) = true := hb
      rw [third, if_pos this]; rfl
    | succ i =>
      have h0 : (hasB b p && hasB b q) = false := hf 0 (by omega)
      rw [third, if_neg (by rw [h0]; simp), ih i (by simpa using hi) hb (fun j hj => hf (j + 1) (by omega))]; rfl
theorem third_none (p q : Int) : ∀ (xs : List Blk), (∀ j, j < xs.length → bothB (nth xs j) p q = false) → third xs p q = -1 := by
  intro xs
  induction xs with
  | nil => intro _; rfl
  | cons b bs ih =>
    intro hf
    have h0 : (hasB b p && hasB b q) = false := hf 0 (by simp)
    rw [third, if_neg (by rw [h0]; simp), ih (fun j hj => hf (j + 1) (by simpa using hj))]
theorem first_of {P : Nat → Bool} : ∀ n, (∀ j, j < n → P j = false) ∨ ∃ i, i < n ∧ P i = true ∧ ∀ j, j < i → P j = false := by
  intro n
  induction n with
  | zero => exact .inl fun j hj => by omega
  | succ n ih =>
    rcases ih with h | ⟨i, h1, h2, h3⟩
    · cases hp : P n
      · refine .inl fun j hj => ?_
        by_cases hjn : j = n
        · subst hjn; exact hp
        · exact h j (by omega)
      · exact .inr ⟨n, by omega, hp, h⟩
    · exact .inr ⟨i, by omega, h2, h3⟩

/-- two blocks with two points in common -/
theorem com_two {v v' : Int} {a b : Blk} (ha : goodB v a = true) (hb : goodB v' b = true) {p q : Int} (hne : p ≠ q) (h1 : bothB a p q = true) (h2 : bothB b p q = true) : 1 < comI a b := by
  have hnot : ¬ comI a b ≤ 1 := by
    rw [comI_two ha hb]
    unfold bothB at h1 h2
    simp only [Bool.and_eq_true] at h1 h2
    obtain ⟨h1p, h1q⟩ := h1
    obtain ⟨h2p, h2q⟩ := h2
    rintro ⟨k1, k2, k3⟩
    have key : ∀ x y : Int, hasB b x = true → hasB b y = true → x ≠ y → inB b x y = true := fun x y hx hy hxy => inB_iff.2 ⟨hxy, hx, hy⟩
    rcases has_iff.1 h1p with e1 | e1 | e1 <;> rcases has_iff.1 h1q with e2 | e2 | e2
    · exact hne (e1.symm.trans e2)
    · rw [← e1] at h2p hne; rw [← e2] at h2q hne; rw [key _ _ h2p h2q hne] at k1; cases k1
    · rw [← e1] at h2p hne; rw [← e2] at h2q hne; rw [key _ _ h2p h2q hne] at k2; cases k2
    · rw [← e1] at h2p hne; rw [← e2] at h2q hne; rw [key _ _ h2q h2p (Ne.symm hne)] at k1; cases k1
    · exact hne (e1.symm.trans e2)
    · rw [← e1] at h2p hne; rw [← e2] at h2q hne; rw [key _ _ h2p h2q hne] at k3; cases k3
    · rw [← e1] at h2p hne; rw [← e2] at h2q hne; rw [key _ _ h2q h2p (Ne.symm hne)] at k2; cases k2
    · rw [← e1] at h2p hne; rw [← e2] at h2q hne; rw [key _ _ h2q h2p (Ne.symm hne)] at k3; cases k3
    · exact hne (e1.symm.trans e2)
  omega

theorem gridN_at (bs : List Blk) {p q : Int} (hp : 0 ≤ p) (hq : 0 ≤ q) (hq' : q < 15) {i : Nat} : ∀ k, (∀ j, j < k → goodB 15 (nth bs j) = true) → i < k → inB (nth bs i) p q = true → (∀ j, j < k → j ≠ i → inB (nth bs j) p q = false) →
    gridN bs k (p.toNat * 15 + q.toNat) = sumB (nth bs i) - p - q := by
  intro k
  induction k with
  | zero => intro _ h; omega
  | succ k ih =>
    intro hg hi h hot
    rw [gridN, putG_cell _ (hg k (by omega)) hp hq hq']
    by_cases hik : i = k
    · subst hik; rw [if_pos h, if_pos rfl]
    · rw [if_neg (by rw [hot k (by omega) (Ne.symm hik)]; simp)]
      exact ih (fun j hj => hg j (by omega)) (by omega) h (fun j hj hne => hot j (by omega) hne)

theorem gridN_third {v : Int} {xs : List Blk} (hs : isSys v xs) {p q : Int} (hp : 0 ≤ p) (hq : 0 ≤ q) (hq' : q < 15) (hne : p ≠ q) : gridN xs xs.length (p.toNat * 15 + q.toNat) = third xs p q := by
  have hg : ∀ j, j < xs.length → goodB 15 (nth xs j) = true := fun j hj => good_mono (hs.2.2.1 j hj).1 hs.1.2
  have hin : ∀ j, inB (nth xs j) p q = bothB (nth xs j) p q := by
    intro j; unfold inB bothB; simp [hne]
  rcases first_of (P := fun j => bothB (nth xs j) p q) xs.length with h | ⟨i, h1, h2, h3⟩
  · rw [third_none p q xs h, gridN_free xs hp hq hq' xs.length hg]
    intro j hj; rw [hin]; exact h j hj
  · rw [third_at p q xs i h1 h2 h3]
    refine gridN_at xs hp hq hq' xs.length hg h1 (by rw [hin]; exact h2) (fun j hj hne' => ?_)
    rw [hin, ← Bool.not_eq_true]
    intro hj2
    rcases Nat.lt_or_gt_of_ne hne' with hlt | hgt
    · have := hs.2.2.2 i h1 j hlt
      have := com_two (hg i h1) (hg j hj) hne h2 hj2
      omega
    · have := hs.2.2.2 j hj i hgt
      have := com_two (hg j hj) (hg i h1) hne hj2 h2
      omega
theorem third_bd {v : Int} {xs : List Blk} (ha : areB v xs) (p q : Int) (hne : p ≠ q) : -1 ≤ third xs p q ∧ (third xs p q < v ∨ third xs p q = -1) := by
  rcases first_of (P := fun j => bothB (nth xs j) p q) xs.length with h | ⟨i, h1, h2, h3⟩
  · rw [third_none p q xs h]; omega
  · rw [third_at p q xs i h1 h2 h3]
    have := in_third (ha i h1).1 (p := p) (q := q) (by unfold inB; unfold bothB at h2; simp [hne]; simpa using h2)
    omega

/-- the product of two points -/
def prodI (xs : List Blk) (a b : Int) : Int := if a = b then a else third xs a b
def fullB (v : Int) (xs : List Blk) : Bool := 6 * (xs.length : Int) == v * (v - 1)
/-- all numbers lie from 0 to m -/
def allIn (ls : List Int) (m : Int) : Prop := ∀ k, k < ls.length → 0 ≤ nthI ls k ∧ nthI ls k ≤ m
noncomputable def allInB (ls : List Int) (m : Int) : Bool := open Classical in decide (allIn ls m)
theorem allInB_true {ls : List Int} {m : Int} (h : allIn ls m) : allInB ls m = true := by unfold allInB; simpa using h
theorem allInB_false {ls : List Int} {m : Int} (h : ¬ allIn ls m) : allInB ls m = false := by unfold allInB; simpa using h
theorem allInB_iff {ls : List Int} {m : Int} : allInB ls m = true ↔ allIn ls m := by unfold allInB; simp
/-- the code of numbers up to m and of a system that has to be full -/
noncomputable def elCode (v : Int) (xs : List Blk) (m : Int) (ls : List Int) : Int := if isSysB v xs = true then (if allInB ls m = true then (if fullB v xs = true then 0 else 5) else 2) else 1

end Go.Proofs.Ytbknpflbafjblaa

/- Contracts of third points, of codes of elements and of products; conditions: stated in each. -/
namespace Go.Proofs.Ytbknpflbafjblaa
open Go.RowKit
set_option maxHeartbeats 400000
set_option maxRecDepth 100000
set_option linter.unusedSimpArgs false
set_option linter.unusedVariables false

theorem with_is {b : Blk} {p : Int} {r : Bool} (h : hasB b p = r) (w : World) :
    Calls Try.prog 158 #[.agg #[.int .i64 b.1, .int .i64 b.2.1, .int .i64 b.2.2], .int .i64 p] w fun e w' => e = .returned (.bool r) ∧ Below w.heap.size w w' := h ▸ l01With_any b p w

theorem l01Third_any (v : Int) (A : Option Addr) (c : Nat) (xs : List Blk) (p q : Int) (w : World) (hA : Bl w A xs) (hl : xs.length ≤ 1048576) (hs : isSys v xs) (hp : 0 ≤ p ∧ p < 15) (hq : 0 ≤ q ∧ q < 15) :
    Calls Try.prog 127 #[.agg #[.int .i64 v, .slice A xs.length c], .int .i64 p, .int .i64 q] w fun e w' => e = .returned (.int .i64 (third xs p q)) ∧ Below w.heap.size w w' := by
  have HAR : Hid (areB v xs) := hs.2.2.1
  have hv15 := hs.1.2
  have HA := Lib.hid (hA.below (below_alloc w (.cells #[.int .i64 v, .slice A xs.length c] 30)))
  have HR := Lib.hid (Row.box w 30 (.int .i64 v) (.slice A xs.length c))
  have HW := Lib.hid (below_alloc w (.cells #[.int .i64 v, .slice A xs.length c] 30))
  clear hA hs
  go_enter Try.func127, Try.ntmps127
  go_wp2
  generalize w.alloc _ = W at *
  go_loopw [7] (fun i wr => ∃ k : Nat, k ≤ xs.length ∧ i = .int .i64 k ∧ Below W.heap.size W wr ∧ Hid (∀ j, j < k → bothB (nth xs j) p q = false)) (fun i _ => xs.length - (intOf i).toNat)
  case atStart => exact ⟨0, by omega, rfl, Below.refl _ _, fun i hi => by omega⟩
  case round =>
    obtain ⟨k, hk, rfl, hb, HC⟩ := hrel
    obtain ⟨c0, c1⟩ := (HR.out.below hb).c2
    have hsz := (HR.out.below hb).lt
    by_cases hlt : k < xs.length
    · obtain ⟨b1, o1, hA1, hb1, p0, p1, p2⟩ := (HA.out.below hb).at_ hlt
      subst hA1
      have hg := good_bd (HAR.out k hlt).1
      have HX := Lib.hid (Box.new wr (nth xs k) 99)
      have HB := Lib.hid (below_up hb (below_alloc wr (.cells #[.int .i64 (nth xs k).1, .int .i64 (nth xs k).2.1, .int .i64 (nth xs k).2.2] 99)))
      clear hb
      cases h1 : hasB (nth xs k) p
      · go_wp2_with fail
        refine (with_is h1 _).mono ?_
        rintro e w1 ⟨rfl, hb⟩
        replace HB := Lib.hid (below_up HB.out hb); clear hb
        go_wp2
        go_roundw
        case rel =>
          refine ⟨k + 1, by omega, by go_num, HB.out, fun i hi => ?_⟩
          by_cases hij : i < k
          · exact HC.out i hij
          · obtain rfl : i = k := by omega
            unfold bothB; rw [h1]; rfl
        case measure => simp [intOf]; omega
      · cases h2 : hasB (nth xs k) q
        · go_wp2_with fail
          refine (with_is h1 _).mono ?_
          rintro e w1 ⟨rfl, hb⟩
          obtain ⟨x0, x1, x2⟩ := (HX.out.below hb).three
          replace HB := Lib.hid (below_up HB.out hb); clear hb
          go_wp2_with fail
          refine (with_is h2 _).mono ?_
          rintro e w2 ⟨rfl, hb⟩
          replace HB := Lib.hid (below_up HB.out hb); clear hb
          go_wp2
          go_roundw
          case rel =>
            refine ⟨k + 1, by omega, by go_num, HB.out, fun i hi => ?_⟩
            by_cases hij : i < k
            · exact HC.out i hij
            · obtain rfl : i = k := by omega
              unfold bothB; rw [h1, h2]; rfl
          case measure => simp [intOf]; omega
        · have HT : Hid (third xs p q = sumB (nth xs k) - p - q) := third_at p q xs k hlt (by unfold bothB; rw [h1, h2]; rfl) HC.out
          go_wp2_with fail
          refine (with_is h1 _).mono ?_
          rintro e w1 ⟨rfl, hb⟩
          obtain ⟨x0, x1, x2⟩ := (HX.out.below hb).three
          have HX1 := Lib.hid (HX.out.below hb)
          replace HB := Lib.hid (below_up HB.out hb); clear hb
          go_wp2_with fail
          refine (with_is h2 _).mono ?_
          rintro e w2 ⟨rfl, hb⟩
          clear x0 x1 x2
          obtain ⟨x0, x1, x2⟩ := (HX1.out.below hb).three
          replace HB := Lib.hid (below_up HB.out hb); clear hb
          go_wp2
          go_ret
          exact ⟨ret_int (by rw [HT.out]; rfl), below_up HW.out HB.out⟩
    · obtain rfl : k = xs.length := by omega
      go_wp2
      go_ret
      exact ⟨ret_int (third_none p q xs HC.out).symm, below_up HW.out hb⟩

theorem l01Full_any (v : Int) (A : Option Addr) (c : Nat) (xs : List Blk) (w : World) (hl : xs.length ≤ 1048576) (hv : 0 ≤ v ∧ v ≤ 15) :
    Calls Try.prog 61 #[.agg #[.int .i64 v, .slice A xs.length c]] w fun e w' => e = .returned (.bool (fullB v xs)) ∧ Below w.heap.size w w' := by
  have HF : Hid (fullB v xs = (6 * (xs.length : Int) == v * (v - 1))) := rfl
  generalize fullB v xs = R at *
  have hm : 0 ≤ v * (v - 1) + 1 ∧ v * (v - 1) ≤ 1000 := by
    obtain ⟨n, rfl⟩ := Int.eq_ofNat_of_zero_le hv.1
    have : n ≤ 15 := by omega
    have hh : ∀ n : Nat, n ≤ 15 → 0 ≤ (n : Int) * ((n : Int) - 1) + 1 ∧ (n : Int) * ((n : Int) - 1) ≤ 1000 := by decide +kernel
    exact hh n this
  go_enter Try.func61, Try.ntmps61
  go_wp2
  go_ret
  exact ⟨ret_bool (by rw [HF.out]), below_alloc _ _⟩

theorem isFull_any (v : Int) (A : Option Addr) (c : Nat) (xs : List Blk) (w : World) (hl : xs.length ≤ 1048576) (hv : 0 ≤ v ∧ v ≤ 15) :
    Calls Try.prog 65 #[.agg #[.int .i64 v, .slice A xs.length c]] w fun e w' => e = .returned (.bool (fullB v xs)) ∧ Below w.heap.size w w' := by
  have HF : Hid (fullB v xs = (6 * (xs.length : Int) == v * (v - 1))) := rfl
  generalize fullB v xs = R at *
  have hm : 0 ≤ v * (v - 1) + 1 ∧ v * (v - 1) ≤ 1000 := by
    obtain ⟨n, rfl⟩ := Int.eq_ofNat_of_zero_le hv.1
    have : n ≤ 15 := by omega
    have hh : ∀ n : Nat, n ≤ 15 → 0 ≤ (n : Int) * ((n : Int) - 1) + 1 ∧ (n : Int) * ((n : Int) - 1) ≤ 1000 := by decide +kernel
    exact hh n this
  go_enter Try.func65, Try.ntmps65
  go_wp2
  go_ret
  exact ⟨ret_bool (by rw [HF.out]), below_alloc _ _⟩

/-- whether some number of a list is such -/
noncomputable def anyP (p : Int → Bool) (ls : List Int) : Bool := open Classical in decide (∃ k, k < ls.length ∧ p (nthI ls k) = true)
theorem anyP_true {p : Int → Bool} {ls : List Int} {k : Nat} (hk : k < ls.length) (h : p (nthI ls k) = true) : anyP p ls = true := by unfold anyP; simp; exact ⟨k, hk, h⟩
theorem anyP_false {p : Int → Bool} {ls : List Int} (h : ∀ k, k < ls.length → p (nthI ls k) = false) : anyP p ls = false := by unfold anyP; simp; exact h

end Go.Proofs.Ytbknpflbafjblaa

/- Contracts: meets, numbersOf; conditions: stated in each. -/
namespace Go.Proofs.Ytbknpflbafjblaa
open Go.RowKit
set_option maxHeartbeats 400000
set_option linter.unusedSimpArgs false
set_option linter.unusedVariables false

theorem meets_any (a b : Blk) (w : World) :
    Calls Try.prog 161 #[.agg #[.int .i64 a.1, .int .i64 a.2.1, .int .i64 a.2.2], .agg #[.int .i64 b.1, .int .i64 b.2.1, .int .i64 b.2.2]] w fun e w' => e = .returned (.bool (meetB a b)) ∧ Below w.heap.size w w' := by
  have hM : Hid (meetB a b = (hasB b a.1 || hasB b a.2.1 || hasB b a.2.2)) := rfl
  generalize meetB a b = M at *
  cases h0 : hasB b a.1
  · cases h1 : hasB b a.2.1
    · skip
      go_enter Try.func161, Try.ntmps161
      obtain ⟨hA0, hB0, hW0⟩ := Box.two w a b 99
      have HA0 := Lib.hid hA0; have HB0 := Lib.hid hB0; have HW0 := Lib.hid hW0; clear hA0 hB0 hW0
      go_wp2_with fail
      refine (has_any b _ _).mono ?_
      rintro e w1 ⟨rfl, hb⟩
      have HA1 := Lib.hid (HA0.out.below hb); have HB1 := Lib.hid (HB0.out.below hb)
      have HW1 : Hid (Below w.heap.size w w1) := below_up HW0.out hb
      clear hb
      obtain ⟨q0, q1, q2⟩ := HA1.out.three; obtain ⟨r0, r1, r2⟩ := HB1.out.three
      go_wp2_with fail
      clear q0 q1 q2 r0 r1 r2
      refine (has_any b _ _).mono ?_
      rintro e w2 ⟨rfl, hb⟩
      have HA2 := Lib.hid (HA1.out.below hb); have HB2 := Lib.hid (HB1.out.below hb)
      have HW2 : Hid (Below w.heap.size w w2) := below_up HW1.out hb
      clear hb
      obtain ⟨q0, q1, q2⟩ := HA2.out.three; obtain ⟨r0, r1, r2⟩ := HB2.out.three
      go_wp2_with fail
      clear q0 q1 q2 r0 r1 r2
      refine (has_any b _ _).mono ?_
      rintro e w3 ⟨rfl, hb⟩
      have HA3 := Lib.hid (HA2.out.below hb); have HB3 := Lib.hid (HB2.out.below hb)
      have HW3 : Hid (Below w.heap.size w w3) := below_up HW2.out hb
      clear hb
      obtain ⟨q0, q1, q2⟩ := HA3.out.three; obtain ⟨r0, r1, r2⟩ := HB3.out.three
      go_wp2
      go_ret
      exact ⟨ret_bool (by rw [hM.out, h0, h1]; rfl), HW3.out⟩
    · skip
      go_enter Try.func161, Try.ntmps161
      obtain ⟨hA0, hB0, hW0⟩ := Box.two w a b 99
      have HA0 := Lib.hid hA0; have HB0 := Lib.hid hB0; have HW0 := Lib.hid hW0; clear hA0 hB0 hW0
      go_wp2_with fail
      refine (has_any b _ _).mono ?_
      rintro e w1 ⟨rfl, hb⟩
      have HA1 := Lib.hid (HA0.out.below hb); have HB1 := Lib.hid (HB0.out.below hb)
      have HW1 : Hid (Below w.heap.size w w1) := below_up HW0.out hb
      clear hb
      obtain ⟨q0, q1, q2⟩ := HA1.out.three; obtain ⟨r0, r1, r2⟩ := HB1.out.three
      go_wp2_with fail
      clear q0 q1 q2 r0 r1 r2
      refine (has_any b _ _).mono ?_
      rintro e w2 ⟨rfl, hb⟩
      have HA2 := Lib.hid (HA1.out.below hb); have HB2 := Lib.hid (HB1.out.below hb)
      have HW2 : Hid (Below w.heap.size w w2) := below_up HW1.out hb
      clear hb
      obtain ⟨q0, q1, q2⟩ := HA2.out.three; obtain ⟨r0, r1, r2⟩ := HB2.out.three
      go_wp2
      go_ret
      exact ⟨ret_bool (by rw [hM.out, h0, h1]; rfl), HW2.out⟩
  · skip
    go_enter Try.func161, Try.ntmps161
    obtain ⟨hA0, hB0, hW0⟩ := Box.two w a b 99
    have HA0 := Lib.hid hA0; have HB0 := Lib.hid hB0; have HW0 := Lib.hid hW0; clear hA0 hB0 hW0
    go_wp2_with fail
    refine (has_any b _ _).mono ?_
    rintro e w1 ⟨rfl, hb⟩
    have HA1 := Lib.hid (HA0.out.below hb); have HB1 := Lib.hid (HB0.out.below hb)
    have HW1 : Hid (Below w.heap.size w w1) := below_up HW0.out hb
    clear hb
    obtain ⟨q0, q1, q2⟩ := HA1.out.three; obtain ⟨r0, r1, r2⟩ := HB1.out.three
    go_wp2
    go_ret
    exact ⟨ret_bool (by rw [hM.out, h0]; rfl), HW1.out⟩

theorem infoInt' : (Try.prog.info? 2).map (fun i => (i.zero, i.size, i.bytes)) = some (some (.int .i64 0), 1, 8) := by kernel_rfl

end Go.Proofs.Ytbknpflbafjblaa

/- Rows of numbers that a call makes and writes; conditions: none. -/
namespace Go.Proofs.Ytbknpflbafjblaa
open Go.RowKit

def icells (n : Nat) (F : Nat → Int) : Array Value := ((List.range n).map fun i => Value.int .i64 (F i)).toArray
theorem icells_size (n : Nat) (F : Nat → Int) : (icells n F).size = n := by simp [icells]
theorem icells_get {n i : Nat} (F : Nat → Int) (h : i < n) : (icells n F)[i]? = some (.int .i64 (F i)) := by simp [icells, h]
theorem icells_set (n i : Nat) (F : Nat → Int) (v : Int) : (icells n F).setIfInBounds i (.int .i64 v) = icells n (upd F i v) := by
  apply Array.ext_getElem?
  intro j
  rw [Array.getElem?_setIfInBounds, icells_size]
  by_cases h : i = j
  · subst h
    rw [if_pos rfl]
    by_cases hi : i < n
    · rw [if_pos hi, icells_get _ hi]; simp [upd]
    · rw [if_neg hi, Array.getElem?_eq_none (by rw [icells_size]; omega)]
  · rw [if_neg h]
    by_cases hj : j < n
    · rw [icells_get _ hj, icells_get _ hj, upd, if_neg (fun e => h e.symm)]
    · rw [Array.getElem?_eq_none (by rw [icells_size]; omega), Array.getElem?_eq_none (by rw [icells_size]; omega)]
/-- Block g holds the n numbers F 0, F 1, .. -/
def Va (w : World) (g n : Nat) (F : Nat → Int) : Prop := Row w g 2 (icells n F)
theorem Va.lt {w : World} {g n : Nat} {F : Nat → Int} (h : Va w g n F) : g < w.heap.size := Row.lt h
theorem Va.below {w w' : World} {g n : Nat} {F : Nat → Int} (h : Va w g n F) (hb : Below w.heap.size w w') : Va w' g n F := Row.below h hb
theorem Va.cell {w : World} {g n : Nat} {F : Nat → Int} (h : Va w g n F) {i : Nat} (hi : i < n) : w.cell? ⟨g, i, none⟩ = some (.int .i64 (F i)) := (Row.cell h i).trans (icells_get F hi)
theorem Va.frozen {w : World} {g n : Nat} {F : Nat → Int} (h : Va w g n F) (i : Nat) : w.frozen? ⟨g, i, none⟩ = false := Row.frozen h i
theorem Va.set {w : World} {g n : Nat} {F : Nat → Int} (h : Va w g n F) (i : Nat) (v : Int) : Va (w.setCell ⟨g, i, none⟩ (.int .i64 v)) g n (upd F i v) := by
  have := Row.set h i (.int .i64 v)
  rw [icells_set] at this
  exact this
theorem Va.ext {w : World} {g n : Nat} {F G : Nat → Int} (h : Va w g n F) (e : ∀ i, i < n → F i = G i) : Va w g n G := by
  have : icells n F = icells n G := by unfold icells; congr 1; exact List.map_congr_left fun i hi => by rw [e i (List.mem_range.1 hi)]
  unfold Va at *; rwa [← this]
theorem Va.make {w : World} {base g n : Nat} (h : w.ownsRow base 2 1 (.slice (some ⟨g, 0, none⟩) n n) n (madeCells (Value.cells (.int .i64 0)) (n * 1)).toList) : Va w g n (fun _ => 0) := by
  rcases h.2 with ⟨h', _⟩ | ⟨g', cap, cur, h', _, hg, _, _, hcs, htk⟩
  · cases h'
  · simp only [Value.slice.injEq, Option.some.injEq, Addr.mk.injEq, and_true, true_and] at h'
    obtain ⟨rfl, rfl⟩ := h'
    have : cur = icells n (fun _ => 0) := by
      apply Array.ext'
      rw [← List.take_of_length_le (l := cur.toList) (i := n * 1) (by simp [hcs]), htk]
      simp [icells, madeCells, Value.cells, Nat.mod_one]
    rw [this] at hg
    exact hg
theorem Va.own {w : World} {base g n : Nat} {F : Nat → Int} (h : Va w g n F) (hb : base ≤ g) (hn : n ≤ maxLen) : w.ownsRow base 2 1 (.slice (some ⟨g, 0, none⟩) n n) n (((List.range n).map F).map (Value.int .i64)) := by
  refine ⟨by simp, .inr ⟨g, n, icells n F, rfl, hb, h, Nat.le_refl _, hn, by simp [icells], ?_⟩⟩
  rw [List.take_of_length_le (by simp [icells])]
  simp [icells]

end Go.Proofs.Ytbknpflbafjblaa

/- Lists of lists of numbers in memory, to be read; conditions: none. -/
namespace Go.Proofs.Ytbknpflbafjblaa
open Go.RowKit

theorem cells_newH {cw : World} {vs : List Value} {t : TypeId} {H : Nat} (hH : cw.heap.size = H) : ∀ j u, vs[j]? = some u → (cw.alloc (.cells vs.toArray t)).cell? ((⟨H, 0, none⟩ : Addr).add j) = some u := by
  subst hH; exact cells_new cw vs t
def nthLL (xss : List (List Int)) (k : Nat) : List Int := xss.getD k []
/-- the block is no block of the row 'u', is there, and is none of the first -/
def Free (w : World) (base : Nat) (u : Value) (B : Option Addr) : Prop := ∀ b, B.map Addr.block = some b → b < w.heap.size ∧ u.ownBlock ≠ some b ∧ base ≤ b
theorem Il.grown {w w' : World} {B : Option Addr} {xs : List Int} {row : Option Nat} (h : Il w B xs) (hg : w.grownBy w' row) (hB : ∀ b, B.map Addr.block = some b → row ≠ some b) : Il w' B xs := by
  rcases h with rfl | ⟨b, o, rfl, hlt, hc⟩
  · exact .inl rfl
  · refine .inr ⟨b, o, rfl, Nat.lt_of_lt_of_le hlt hg.size, fun k hk => ?_⟩
    have := hg.block b hlt (fun e => hB b rfl e.symm)
    exact (World.cell?_of_block (a := ⟨b, o + k, none⟩) this).trans (hc k hk)
/-- u is a row of its own of the lists' headers; each list can be read -/
def LLr (w : World) (base : Nat) (u : Value) (xss : List (List Int)) : Prop :=
  ∃ vs, w.ownsRow base 42 1 u xss.length vs ∧ ∀ k, k < xss.length → ∃ B d, vs[k]? = some (.slice B (nthLL xss k).length d) ∧ Il w B (nthLL xss k) ∧ Free w base u B
theorem LLr.nil (w : World) (base : Nat) : LLr w base (.slice none 0 0) [] := ⟨[], World.ownsRow_nil _ _ _ _, fun k hk => by simp at hk⟩
theorem LLr.below {w w' : World} {base : Nat} {u : Value} {xss : List (List Int)} (h : LLr w base u xss) (hb : Below w.heap.size w w') : LLr w' base u xss := by
  obtain ⟨vs, ho, hi⟩ := h
  refine ⟨vs, own_below ho hb, fun k hk => ?_⟩
  obtain ⟨B, d, h1, h2, h3⟩ := hi k hk
  exact ⟨B, d, h1, h2.below hb, fun b e => ⟨Nat.lt_of_lt_of_le (h3 b e).1 hb.size, (h3 b e).2⟩⟩
theorem LLr.base {w : World} {base base' : Nat} {u : Value} {xss : List (List Int)} (h : LLr w base u xss) (hb : base' ≤ base) : LLr w base' u xss := by
  obtain ⟨vs, ho, hi⟩ := h
  refine ⟨vs, own_base ho hb, fun k hk => ?_⟩
  obtain ⟨B, d, h1, h2, h3⟩ := hi k hk
  exact ⟨B, d, h1, h2, fun b e => ⟨(h3 b e).1, (h3 b e).2.1, Nat.le_trans hb (h3 b e).2.2⟩⟩
theorem LLr.snoc {w w1 w2 : World} {base : Nat} {u v2 : Value} {xss : List (List Int)} {vs : List Value} {B : Option Addr} {d : Nat} {xs : List Int}
    (hi : ∀ k, k < xss.length → ∃ B d, vs[k]? = some (.slice B (nthLL xss k).length d) ∧ Il w B (nthLL xss k) ∧ Free w base u B) (hv : vs.length = xss.length) (hB : Il w B xs) (hf : Free w base u B)
    (hb : Below w.heap.size w w1) (hg : w1.grownBy w2 u.ownBlock) (ho : w2.ownsRow base 42 1 v2 (xss.length + 1) (vs ++ [.slice B xs.length d])) (hat : v2.ownBlock = u.ownBlock ∨ v2.ownBlock = some w1.heap.size) :
    LLr w2 base v2 (xss ++ [xs]) := by
  have key : ∀ {C : Option Addr} {ys : List Int}, Il w C ys → Free w base u C → Il w2 C ys ∧ Free w2 base v2 C := by
    intro C ys h1 h2
    refine ⟨(h1.below hb).grown hg (fun b e => (h2 b e).2.1), fun b e => ⟨?_, ?_, (h2 b e).2.2⟩⟩
    · have := (h2 b e).1; have := hb.size; have := hg.size; omega
    · rcases hat with h | h
      · rw [h]; exact (h2 b e).2.1
      · rw [h]; intro e2
        simp only [Option.some.injEq] at e2
        have := (h2 b e).1; have := hb.size; omega
  refine ⟨vs ++ [.slice B xs.length d], by rw [List.length_append]; exact ho, fun k hk => ?_⟩
  rw [List.length_append, List.length_singleton] at hk
  by_cases hkl : k < xss.length
  · obtain ⟨C, c, h1, h2, h3⟩ := hi k hkl
    have e : nthLL (xss ++ [xs]) k = nthLL xss k := by simp [nthLL, List.getElem?_append_left hkl]
    rw [e]
    exact ⟨C, c, by rw [List.getElem?_append_left (by omega)]; exact h1, key h2 h3⟩
  · obtain rfl : k = xss.length := by omega
    have e : nthLL (xss ++ [xs]) xss.length = xs := by simp [nthLL]
    rw [e]
    exact ⟨B, d, by rw [← hv]; simp, key hB hf⟩
/-- Writing into an elder block. -/
theorem LLr.far {w : World} {base : Nat} {u : Value} {xss : List (List Int)} (h : LLr w base u xss) {p : Addr} (v : Value) (hp : p.block < base) : LLr (w.setCell p v) base u xss := by
  obtain ⟨vs, ho, hi⟩ := h
  have key : ∀ g, g ≠ p.block → (w.setCell p v).heap[g]? = w.heap[g]? := fun g hg => Below.heap_setCell w p v g hg
  refine ⟨vs, ⟨ho.1, ?_⟩, fun k hk => ?_⟩
  · rcases ho.2 with h' | ⟨g, cap, cur, hv, hge, hR, r⟩
    · exact .inl h'
    · exact .inr ⟨g, cap, cur, hv, hge, (key g (by omega)).trans hR, r⟩
  · obtain ⟨B, d, h1, h2, h3⟩ := hi k hk
    refine ⟨B, d, h1, ?_, fun b e => ⟨by have := (h3 b e).1; simpa [World.setCell] using this, (h3 b e).2⟩⟩
    rcases h2 with h2 | ⟨b, o, rfl, hlt, hc⟩
    · exact .inl h2
    · refine .inr ⟨b, o, rfl, by simpa [World.setCell] using hlt, fun j hj => ?_⟩
      have h4 := (h3 b rfl).2.2
      have := key b (by omega)
      exact (World.cell?_of_block (a := ⟨b, o + j, none⟩) this).trans (hc j hj)
theorem LLr.at_ {w : World} {base : Nat} {A : Option Addr} {n c : Nat} {xss : List (List Int)} (h : LLr w base (.slice A n c) xss) {k : Nat} (hk : k < xss.length) :
    ∃ g B d, A = some ⟨g, 0, none⟩ ∧ g < w.heap.size ∧ w.cell? ⟨g, k, none⟩ = some (.slice B (nthLL xss k).length d) ∧ Il w B (nthLL xss k) ∧ base ≤ g ∧ (∀ b, B.map Addr.block = some b → base ≤ b) := by
  obtain ⟨vs, ho, hi⟩ := h
  obtain ⟨B, d, h1, h2, h3⟩ := hi k hk
  rcases ho.2 with ⟨_, hn⟩ | ⟨g, cap, cur, hv, hge, hg, hnc, _, hcs, htk⟩
  · omega
  · simp only [Value.slice.injEq] at hv
    refine ⟨g, B, d, hv.1, Row.lt hg, ?_, h2, hge, fun b e => (h3 b e).2.2⟩
    rw [Row.cell hg]
    rw [← htk, List.getElem?_take_of_lt (by omega), Array.getElem?_toList] at h1
    exact h1

end Go.Proofs.Ytbknpflbafjblaa

/- Plain laws of sets of points as digits in base 2: sets of disjoint blocks, classes. Conditions: none. -/
namespace Go.Proofs.Ytbknpflbafjblaa

theorem ofInt64_nat (a : Nat) (ha : a < 4611686018427387904) : (BitVec.ofInt 64 (a : Int)).toNat = a := by
  rw [BitVec.toNat_ofInt]; omega
theorem wrap_i64_nat (a : Nat) (ha : a < 4611686018427387904) : IntKind.i64.wrap (a : Int) = a := by
  simp [IntKind.wrap, IntKind.bits, IntKind.signed]; omega
theorem bits_and_nat (a b : Nat) (ha : a < 4611686018427387904) (hb : b < 4611686018427387904) : bits .and .i64 (a : Int) (b : Int) = ((a &&& b : Nat) : Int) := by
  have hx : a &&& b < 4611686018427387904 := Nat.lt_of_le_of_lt Nat.and_le_left ha
  show IntKind.i64.wrap ((BitVec.ofInt 64 (a : Int) &&& BitVec.ofInt 64 (b : Int)).toNat : Int) = _
  rw [BitVec.toNat_and, ofInt64_nat a ha, ofInt64_nat b hb, wrap_i64_nat _ hx]
theorem bits_or_nat (a b : Nat) (ha : a < 4611686018427387904) (hb : b < 4611686018427387904) : bits .or .i64 (a : Int) (b : Int) = ((a ||| b : Nat) : Int) := by
  have hx : a ||| b < 2 ^ 62 := Nat.or_lt_two_pow (by simpa using ha) (by simpa using hb)
  show IntKind.i64.wrap ((BitVec.ofInt 64 (a : Int) ||| BitVec.ofInt 64 (b : Int)).toNat : Int) = _
  rw [BitVec.toNat_or, ofInt64_nat a ha, ofInt64_nat b hb, wrap_i64_nat _ (by simpa using hx)]

/-- the points of a block as digits -/
def maskB (b : Blk) : Nat := 2 ^ b.1.toNat + 2 ^ b.2.1.toNat + 2 ^ b.2.2.toNat
theorem pow_lt3 {x y z : Nat} (h1 : x < y) (h2 : y < z) : 2 ^ x + 2 ^ y < 2 ^ z := by
  have e1 : 2 ^ x < 2 ^ y := Nat.pow_lt_pow_right (by omega) h1
  have e2 : 2 ^ (y + 1) ≤ 2 ^ z := Nat.pow_le_pow_right (by omega) h2
  rw [Nat.pow_succ] at e2
  omega
theorem pow_or3 {x y z : Nat} (h1 : x < y) (h2 : y < z) : 2 ^ x + 2 ^ y + 2 ^ z = 2 ^ x ||| 2 ^ y ||| 2 ^ z := by
  have e1 : 2 ^ x < 2 ^ y := Nat.pow_lt_pow_right (by omega) h1
  have a1 := Nat.two_pow_add_eq_or_of_lt e1 1
  have a2 := Nat.two_pow_add_eq_or_of_lt (pow_lt3 h1 h2) 1
  rw [Nat.mul_one] at a1 a2
  rw [show 2 ^ x + 2 ^ y + 2 ^ z = 2 ^ z + (2 ^ x + 2 ^ y) by omega, a2, show 2 ^ x + 2 ^ y = 2 ^ y + 2 ^ x by omega, a1, Nat.or_comm (2 ^ y), Nat.or_comm (2 ^ z)]
theorem maskB_bit {v : Int} {b : Blk} (hg : goodB v b = true) (j : Nat) : (maskB b).testBit j = hasB b j := by
  have h := good_bd hg
  unfold maskB
  rw [pow_or3 (by omega) (by omega), Nat.testBit_or, Nat.testBit_or, Nat.testBit_two_pow, Nat.testBit_two_pow, Nat.testBit_two_pow]
  unfold hasB
  rw [Bool.eq_iff_iff]
  simp only [Bool.or_eq_true, decide_eq_true_eq]
  omega
theorem maskB_lt {v : Int} {b : Blk} (hg : goodB v b = true) : maskB b < 2 ^ v.toNat := by
  have h := good_bd hg
  have h1 := pow_lt3 (x := b.1.toNat) (y := b.2.1.toNat) (z := b.2.2.toNat) (by omega) (by omega)
  have h2 : 2 ^ (b.2.2.toNat + 1) ≤ 2 ^ v.toNat := Nat.pow_le_pow_right (by omega) (by omega)
  rw [Nat.pow_succ] at h2
  unfold maskB; omega
theorem pow15 {v : Int} (h : v ≤ 15) : 2 ^ v.toNat ≤ 32768 := by
  have : 2 ^ v.toNat ≤ 2 ^ 15 := Nat.pow_le_pow_right (by omega) (by omega)
  simpa using this

/-- the block that a place of a list tells -/
def blkAt (xs : List Blk) (ls : List Int) (k : Nat) : Blk := nth xs (nthI ls k).toNat
/-- the points of the first k blocks of a list -/
def uni (xs : List Blk) (ls : List Int) : Nat → Nat
  | 0 => 0
  | k + 1 => uni xs ls k ||| maskB (blkAt xs ls k)
def apart (xs : List Blk) (ls : List Int) (k : Nat) : Prop := ∀ i, i < k → ∀ j, j < i → meetB (blkAt xs ls i) (blkAt xs ls j) = false
noncomputable def apartB (xs : List Blk) (ls : List Int) : Bool := open Classical in decide (apart xs ls ls.length)
theorem apartB_true {xs : List Blk} {ls : List Int} (h : apart xs ls ls.length) : apartB xs ls = true := by unfold apartB; simp [h]
theorem apartB_false {xs : List Blk} {ls : List Int} (h : ¬ apart xs ls ls.length) : apartB xs ls = false := by unfold apartB; simp [h]
theorem apartB_iff {xs : List Blk} {ls : List Int} : apartB xs ls = true ↔ apart xs ls ls.length := by unfold apartB; simp

section
variable {v : Int} {xs : List Blk} {ls : List Int} (ha : areB v xs) (hr : risesI ls xs.length)
include ha hr
theorem blkAt_good {k : Nat} (hk : k < ls.length) : goodB v (blkAt xs ls k) = true := by
  have := (hr k hk).1
  exact (ha (nthI ls k).toNat (by omega)).1
theorem uni_bit (j : Nat) : ∀ k, k ≤ ls.length → ((uni xs ls k).testBit j = true ↔ ∃ i, i < k ∧ hasB (blkAt xs ls i) j = true) := by
  intro k
  induction k with
  | zero => intro _; simp [uni]
  | succ k ih =>
    intro hk
    rw [uni, Nat.testBit_or, Bool.or_eq_true, ih (by omega), maskB_bit (blkAt_good ha hr (by omega))]
    constructor
    · rintro (⟨i, h1, h2⟩ | h)
      · exact ⟨i, by omega, h2⟩
      · exact ⟨k, by omega, h⟩
    · rintro ⟨i, h1, h2⟩
      by_cases hik : i = k
      · subst hik; exact .inr h2
      · exact .inl ⟨i, by omega, h2⟩
theorem uni_lt : ∀ k, k ≤ ls.length → uni xs ls k < 2 ^ v.toNat := by
  intro k
  induction k with
  | zero => intro _; exact Nat.two_pow_pos _
  | succ k ih => intro hk; exact Nat.or_lt_two_pow (ih (by omega)) (maskB_lt (blkAt_good ha hr (by omega)))
theorem uni_meet {k : Nat} (hk : k < ls.length) : (uni xs ls k &&& maskB (blkAt xs ls k) = 0) ↔ ∀ j, j < k → meetB (blkAt xs ls k) (blkAt xs ls j) = false := by
  have hg := blkAt_good ha hr hk
  have hb := good_bd hg
  have hbit : ∀ j : Nat, ((uni xs ls k &&& maskB (blkAt xs ls k)).testBit j = true ↔ (∃ i, i < k ∧ hasB (blkAt xs ls i) j = true) ∧ hasB (blkAt xs ls k) j = true) := by
    intro j
    rw [Nat.testBit_and, Bool.and_eq_true, uni_bit ha hr j k (by omega), maskB_bit hg]
  constructor
  · intro h0 j hj
    rw [h0] at hbit
    simp only [Nat.zero_testBit, Bool.false_eq_true, false_iff] at hbit
    rw [← Bool.not_eq_true]
    intro hm
    unfold meetB at hm
    simp only [Bool.or_eq_true] at hm
    have key : ∀ p : Int, 0 ≤ p → hasB (blkAt xs ls k) p = true → hasB (blkAt xs ls j) p = true → False := by
      intro p hp h1 h2
      have := hbit p.toNat
      rw [Int.toNat_of_nonneg hp] at this
      exact this ⟨⟨j, hj, h2⟩, h1⟩
    rcases hm with (hm | hm) | hm
    · exact key _ (by omega) (by simp [hasB]) hm
    · exact key _ (by omega) (by simp [hasB]) hm
    · exact key _ (by omega) (by simp [hasB]) hm
  · intro h
    apply Nat.eq_of_testBit_eq
    intro j
    rw [Nat.zero_testBit, ← Bool.not_eq_true, hbit]
    rintro ⟨⟨i, hi, h1⟩, h2⟩
    have := h i hi
    unfold meetB at this
    simp only [Bool.or_eq_false_iff] at this
    rcases has_iff.1 h2 with h2 | h2 | h2 <;> rw [← h2] at h1 <;> simp_all
end

/-- how many of the first n numbers are such -/
def cntF (f : Nat → Bool) : Nat → Nat
  | 0 => 0
  | n + 1 => cntF f n + (if f n then 1 else 0)
theorem cntF_le (f : Nat → Bool) (n : Nat) : cntF f n ≤ n := by
  induction n with
  | zero => simp [cntF]
  | succ n ih => simp only [cntF]; split <;> omega
theorem cntF_or {f g h : Nat → Bool} (n : Nat) (hd : ∀ j, j < n → (h j = (f j || g j)) ∧ (f j && g j) = false) : cntF h n = cntF f n + cntF g n := by
  induction n with
  | zero => simp [cntF]
  | succ n ih =>
    obtain ⟨e1, e2⟩ := hd n (by omega)
    simp only [cntF, ih (fun j hj => hd j (by omega)), e1]
    cases hf : f n <;> cases hg : g n <;> simp_all <;> omega
theorem cntF_all {f : Nat → Bool} (n : Nat) : cntF f n = n ↔ ∀ j, j < n → f j = true := by
  induction n with
  | zero => simp [cntF]
  | succ n ih =>
    have := cntF_le f n
    simp only [cntF]
    constructor
    · intro h j hj
      cases hf : f n
      · rw [hf] at h; simp at h; omega
      · rw [hf] at h
        by_cases hjn : j = n
        · subst hjn; exact hf
        · exact (ih.1 (by simpa using h)) j (by omega)
    · intro h
      rw [ih.2 (fun j hj => h j (by omega)), h n (by omega)]; rfl
theorem cntF_has {v : Int} {b : Blk} (hg : goodB v b = true) (n : Nat) : cntF (fun j => hasB b j) n = (if b.1 < n then 1 else 0) + (if b.2.1 < n then 1 else 0) + (if b.2.2 < n then 1 else 0) := by
  have h := good_bd hg
  induction n with
  | zero => simp only [cntF]; (repeat' split) <;> omega
  | succ n ih =>
    rw [cntF, ih]
    simp only [hasB, decide_eq_true_eq]
    (repeat' split) <;> omega

theorem uni_cnt {v : Int} {xs : List Blk} {ls : List Int} (ha : areB v xs) (hr : risesI ls xs.length) (hd : apart xs ls ls.length) : ∀ k, k ≤ ls.length → cntF (fun j => (uni xs ls k).testBit j) v.toNat = 3 * k := by
  intro k
  induction k with
  | zero =>
    intro _
    have : ∀ n, cntF (fun j => (uni xs ls 0).testBit j) n = 0 := by intro n; induction n with
      | zero => rfl
      | succ n ih => simp only [cntF, ih]; simp [uni]
    simpa using this _
  | succ k ih =>
    intro hk
    have hg := blkAt_good ha hr (k := k) (by omega)
    have hb := good_bd hg
    have hm := (uni_meet ha hr (by omega : k < ls.length)).2 (hd k (by omega))
    rw [cntF_or (f := fun j => (uni xs ls k).testBit j) (g := fun j => hasB (blkAt xs ls k) j) v.toNat, ih (by omega), cntF_has hg, if_pos (by omega), if_pos (by omega), if_pos (by omega)]
    · omega
    · intro j _
      refine ⟨by rw [uni, Nat.testBit_or, maskB_bit hg], ?_⟩
      have := congrArg (fun m => m.testBit j) hm
      simp only [Nat.testBit_and, maskB_bit hg, Nat.zero_testBit] at this
      exact this
theorem class_iff {v : Int} {xs : List Blk} {ls : List Int} (hv : 0 ≤ v) (ha : areB v xs) (hr : risesI ls xs.length) (hd : apart xs ls ls.length) :
    uni xs ls ls.length = 2 ^ v.toNat - 1 ↔ 3 * (ls.length : Int) = v := by
  have hc := uni_cnt ha hr hd ls.length (Nat.le_refl _)
  have hlt := uni_lt ha hr ls.length (Nat.le_refl _)
  constructor
  · intro h
    have : cntF (fun j => (uni xs ls ls.length).testBit j) v.toNat = v.toNat := by
      rw [cntF_all]; intro j hj; rw [h, Nat.testBit_two_pow_sub_one]; simpa using hj
    omega
  · intro h
    have hall := (cntF_all (f := fun j => (uni xs ls ls.length).testBit j) v.toNat).1 (by omega)
    apply Nat.eq_of_testBit_eq
    intro j
    rw [Nat.testBit_two_pow_sub_one]
    by_cases hj : j < v.toNat
    · rw [hall j hj]; simp [hj]
    · rw [Nat.testBit_lt_two_pow (Nat.lt_of_lt_of_le hlt (Nat.pow_le_pow_right (by omega) (by omega)))]; simp [hj]

end Go.Proofs.Ytbknpflbafjblaa
