/- Plain laws of the blocks of some points that are such, in order. Conditions: none. -/
import Derived.Test.YtpdkkbimhhhjmaaP2
namespace Go.Proofs.Ytpdkkbimhhhjmaa

/-- the blocks a, b, c with b < c < m that are such -/
def csT (p : Blk → Bool) (a b : Nat) : Nat → List Blk
  | 0 => []
  | m + 1 => csT p a b m ++ (if b < m ∧ p ((a : Int), (b : Int), (m : Int)) = true then [((a : Int), (b : Int), (m : Int))] else [])
def bsT (p : Blk → Bool) (n a : Nat) : Nat → List Blk
  | 0 => []
  | m + 1 => bsT p n a m ++ (if a < m then csT p a m n else [])
def asT (p : Blk → Bool) (n : Nat) : Nat → List Blk
  | 0 => []
  | m + 1 => asT p n m ++ bsT p n m n
def triL (p : Blk → Bool) (n : Nat) : List Blk := asT p n n

theorem csT_nil (p : Blk → Bool) (a b : Nat) : ∀ m, m ≤ b + 1 → csT p a b m = [] := by
  intro m
  induction m with
  | zero => intro _; rfl
  | succ m ih => intro h; rw [csT, ih (by omega), if_neg (by omega)]; rfl
theorem bsT_nil (p : Blk → Bool) (n a : Nat) : ∀ m, m ≤ a + 1 → bsT p n a m = [] := by
  intro m
  induction m with
  | zero => intro _; rfl
  | succ m ih => intro h; rw [bsT, ih (by omega), if_neg (by omega)]; rfl
theorem csT_len (p : Blk → Bool) (a b m : Nat) : (csT p a b m).length ≤ m := by
  induction m with
  | zero => simp [csT]
  | succ m ih => simp only [csT]; split <;> simp <;> omega
theorem bsT_len (p : Blk → Bool) {n : Nat} (hn : n ≤ 15) (a m : Nat) : (bsT p n a m).length ≤ 15 * m := by
  induction m with
  | zero => simp [bsT]
  | succ m ih =>
    have := csT_len p a m n
    simp only [bsT]; split <;> simp <;> omega
theorem asT_len (p : Blk → Bool) {n : Nat} (hn : n ≤ 15) (m : Nat) : (asT p n m).length ≤ 225 * m := by
  induction m with
  | zero => simp [asT]
  | succ m ih =>
    have := bsT_len p hn m n
    simp only [asT, List.length_append]; omega
theorem triL_len (p : Blk → Bool) {n : Nat} (hn : n ≤ 15) : (triL p n).length ≤ 3375 := by
  have := asT_len p hn n
  unfold triL; omega

theorem csT_congr {p q : Blk → Bool} {a b n : Nat} (h : ∀ c, b < c → c < n → p ((a : Int), (b : Int), (c : Int)) = q ((a : Int), (b : Int), (c : Int))) : ∀ m, m ≤ n → csT p a b m = csT q a b m := by
  intro m
  induction m with
  | zero => intro _; rfl
  | succ m ih =>
    intro hm
    rw [csT, csT, ih (by omega)]
    by_cases hb : b < m
    · rw [h m hb (by omega)]
    · rw [if_neg (by omega), if_neg (by omega)]
theorem triL_congr {p q : Blk → Bool} {n : Nat} (h : ∀ a b c : Nat, a < b → b < c → c < n → p ((a : Int), (b : Int), (c : Int)) = q ((a : Int), (b : Int), (c : Int))) : triL p n = triL q n := by
  have hb : ∀ a m, m ≤ n → bsT p n a m = bsT q n a m := by
    intro a m
    induction m with
    | zero => intro _; rfl
    | succ m ih =>
      intro hm
      rw [bsT, bsT, ih (by omega)]
      by_cases ha : a < m
      · rw [if_pos ha, if_pos ha, csT_congr (fun c h1 h2 => h a m c ha h1 h2) n (Nat.le_refl _)]
      · rw [if_neg ha, if_neg ha]
  have ha : ∀ m, m ≤ n → asT p n m = asT q n m := by
    intro m
    induction m with
    | zero => intro _; rfl
    | succ m ih => intro hm; rw [asT, asT, ih (by omega), hb m n (Nat.le_refl _)]
  exact ha n (Nat.le_refl _)

/-- whether a block fits to all blocks -/
noncomputable def freeB (xs : List Blk) (b : Blk) : Bool := open Classical in decide (∀ i, i < xs.length → comI (nth xs i) b ≤ 1)
theorem freeB_true {xs : List Blk} {b : Blk} (h : ∀ i, i < xs.length → comI (nth xs i) b ≤ 1) : freeB xs b = true := by unfold freeB; simpa using h
theorem freeB_false {xs : List Blk} {b : Blk} (h : ¬ ∀ i, i < xs.length → comI (nth xs i) b ≤ 1) : freeB xs b = false := by unfold freeB; simpa using h
theorem freeB_left {v : Int} {xs : List Blk} {b : Blk} (hs : isSys v xs) (hb : goodB 15 b = true) : leftB (gridN xs xs.length) b = freeB xs b := by
  have hg : ∀ j, j < xs.length → goodB 15 (nth xs j) = true := fun j hj => good_mono (hs.2.2.1 j hj).1 hs.1.2
  rw [Bool.eq_iff_iff, left_iff hg hb]
  constructor
  · intro h; exact freeB_true fun i hi => by rw [comI_symm]; exact h i hi
  · intro h j hj
    by_cases hf : ∀ i, i < xs.length → comI (nth xs i) b ≤ 1
    · rw [comI_symm]; exact hf j hj
    · rw [freeB_false hf] at h; cases h

end Go.Proofs.Ytpdkkbimhhhjmaa
