/- Plain laws of grids: what a grid tells of the blocks that were put in. Conditions: none. -/
import Derived.Test.YtpdkkbimhhhjmaaP0
namespace Go.Proofs.Ytpdkkbimhhhjmaa

def upd (G : Nat → Int) (i : Nat) (v : Int) : Nat → Int := fun j => if j = i then v else G j
def leftB (G : Nat → Int) (b : Blk) : Bool := (G (b.1.toNat * 15 + b.2.1.toNat) == -1) && (G (b.1.toNat * 15 + b.2.2.toNat) == -1) && (G (b.2.1.toNat * 15 + b.2.2.toNat) == -1)
def putG (G : Nat → Int) (b : Blk) (is : Bool) : Nat → Int :=
  upd (upd (upd (upd (upd (upd G (b.1.toNat * 15 + b.2.1.toNat) (if is then b.2.2 else -1)) (b.2.1.toNat * 15 + b.1.toNat) (if is then b.2.2 else -1))
    (b.2.1.toNat * 15 + b.2.2.toNat) (if is then b.1 else -1)) (b.2.2.toNat * 15 + b.2.1.toNat) (if is then b.1 else -1))
    (b.2.2.toNat * 15 + b.1.toNat) (if is then b.2.1 else -1)) (b.1.toNat * 15 + b.2.2.toNat) (if is then b.2.1 else -1)


def gridN (bs : List Blk) : Nat → (Nat → Int)
  | 0 => fun _ => -1
  | k + 1 => putG (gridN bs k) (nth bs k) true

theorem good_bd {v : Int} {b : Blk} (h : goodB v b = true) : 0 ≤ b.1 ∧ b.1 < b.2.1 ∧ b.2.1 < b.2.2 ∧ b.2.2 < v := by simpa [goodB] using h
theorem good_mono {v v' : Int} {b : Blk} (h : goodB v b = true) (hv : v ≤ v') : goodB v' b = true := by
  have := good_bd h; simp [goodB]; omega
theorem has_iff {b : Blk} {p : Int} : hasB b p = true ↔ b.1 = p ∨ b.2.1 = p ∨ b.2.2 = p := by simp [hasB]

/-- both points of two different ones lie in a block -/
def inB (b : Blk) (p q : Int) : Bool := decide (p ≠ q) && hasB b p && hasB b q
theorem inB_iff {b : Blk} {p q : Int} : inB b p q = true ↔ p ≠ q ∧ hasB b p = true ∧ hasB b q = true := by simp [inB, and_assoc]
def sumB (b : Blk) : Int := b.1 + b.2.1 + b.2.2

theorem putG_cell (G : Nat → Int) {b : Blk} (hg : goodB 15 b = true) {p q : Int} (hp : 0 ≤ p) (hq : 0 ≤ q) (hq' : q < 15) (is : Bool) :
    putG G b is (p.toNat * 15 + q.toNat) = if inB b p q = true then (if is then sumB b - p - q else -1) else G (p.toNat * 15 + q.toNat) := by
  obtain ⟨x, y, z⟩ := b
  have hb := good_bd hg
  dsimp only at hb
  have key : ∀ a c : Int, 0 ≤ a → 0 ≤ c → c < 15 → ((p.toNat * 15 + q.toNat = a.toNat * 15 + c.toNat) ↔ (p = a ∧ q = c)) := by
    intro a c _ _ _; omega
  simp only [putG, upd]
  simp only [key x z (by omega) (by omega) (by omega), key z x (by omega) (by omega) (by omega), key z y (by omega) (by omega) (by omega), key y z (by omega) (by omega) (by omega), key y x (by omega) (by omega) (by omega), key x y (by omega) (by omega) (by omega)]
  have hin : inB (x, y, z) p q = true ↔ p ≠ q ∧ (x = p ∨ y = p ∨ z = p) ∧ (x = q ∨ y = q ∨ z = q) := by rw [inB_iff, has_iff, has_iff]
  by_cases h : inB (x, y, z) p q = true
  · rw [if_pos h]
    obtain ⟨hne, h1, h2⟩ := hin.1 h
    simp only [sumB]
    rcases h1 with rfl | rfl | rfl <;> rcases h2 with h2 | h2 | h2 <;> first | exact absurd h2 hne | (subst h2; cases is <;> simp <;> (repeat' split) <;> omega)
  · rw [if_neg h]
    rw [hin] at h
    rw [if_neg (by rintro ⟨rfl, rfl⟩; exact h ⟨by omega, by simp, by simp⟩), if_neg (by rintro ⟨rfl, rfl⟩; exact h ⟨by omega, by simp, by simp⟩), if_neg (by rintro ⟨rfl, rfl⟩; exact h ⟨by omega, by simp, by simp⟩),
      if_neg (by rintro ⟨rfl, rfl⟩; exact h ⟨by omega, by simp, by simp⟩), if_neg (by rintro ⟨rfl, rfl⟩; exact h ⟨by omega, by simp, by simp⟩), if_neg (by rintro ⟨rfl, rfl⟩; exact h ⟨by omega, by simp, by simp⟩)]

theorem in_third {b : Blk} {v : Int} (hg : goodB v b = true) {p q : Int} (h : inB b p q = true) : 0 ≤ sumB b - p - q ∧ sumB b - p - q < v ∧ hasB b (sumB b - p - q) = true := by
  obtain ⟨x, y, z⟩ := b
  have hb := good_bd hg
  dsimp only at hb
  obtain ⟨hne, h1, h2⟩ := inB_iff.1 h
  rw [has_iff] at *
  simp only [sumB] at *
  omega

theorem gridN_free (bs : List Blk) {p q : Int} (hp : 0 ≤ p) (hq : 0 ≤ q) (hq' : q < 15) : ∀ k, (∀ j, j < k → goodB 15 (nth bs j) = true) →
    (gridN bs k (p.toNat * 15 + q.toNat) = -1 ↔ ∀ j, j < k → inB (nth bs j) p q = false) := by
  intro k
  induction k with
  | zero => intro _; simp [gridN]
  | succ k ih =>
    intro hg
    have ih := ih fun j hj => hg j (by omega)
    rw [gridN, putG_cell _ (hg k (by omega)) hp hq hq']
    by_cases h : inB (nth bs k) p q = true
    · rw [if_pos h, if_pos rfl]
      have := in_third (hg k (by omega)) h
      constructor
      · intro e; omega
      · intro e; have := e k (by omega); rw [h] at this; cases this
    · rw [if_neg h, ih]
      constructor
      · intro e j hj
        by_cases hjk : j < k
        · exact e j hjk
        · obtain rfl : j = k := by omega
          simpa using h
      · intro e j hj; exact e j (by omega)

theorem comI_count (a : Blk) {b : Blk} {v : Int} (hg : goodB v b = true) : comI a b = one (hasB b a.1) + one (hasB b a.2.1) + one (hasB b a.2.2) := by
  obtain ⟨x, y, z⟩ := b
  have hb := good_bd hg
  dsimp only at hb
  have key : ∀ p : Int, one (p == x) + one (p == y) + one (p == z) = one (hasB (x, y, z) p) := by
    intro p
    simp only [hasB, one, beq_iff_eq, decide_eq_true_eq]
    (repeat' split) <;> omega
  unfold comI
  dsimp only
  rw [key, key, key]

theorem comI_two {a b : Blk} {v v' : Int} (ha : goodB v a = true) (hg : goodB v' b = true) : comI a b ≤ 1 ↔ inB b a.1 a.2.1 = false ∧ inB b a.1 a.2.2 = false ∧ inB b a.2.1 a.2.2 = false := by
  rw [comI_count a hg]
  have := good_bd ha
  have e1 : inB b a.1 a.2.1 = (hasB b a.1 && hasB b a.2.1) := by
    have : a.1 ≠ a.2.1 := by omega
    simp [inB, this]
  have e2 : inB b a.1 a.2.2 = (hasB b a.1 && hasB b a.2.2) := by
    have : a.1 ≠ a.2.2 := by omega
    simp [inB, this]
  have e3 : inB b a.2.1 a.2.2 = (hasB b a.2.1 && hasB b a.2.2) := by
    have : a.2.1 ≠ a.2.2 := by omega
    simp [inB, this]
  rw [e1, e2, e3]
  cases hasB b a.1 <;> cases hasB b a.2.1 <;> cases hasB b a.2.2 <;> simp [one]

theorem left_iff {bs : List Blk} {k : Nat} {b : Blk} (hg : ∀ j, j < k → goodB 15 (nth bs j) = true) (hb : goodB 15 b = true) :
    leftB (gridN bs k) b = true ↔ ∀ j, j < k → comI b (nth bs j) ≤ 1 := by
  have h := good_bd hb
  unfold leftB
  simp only [Bool.and_eq_true, beq_iff_eq]
  rw [gridN_free bs (by omega) (by omega) (by omega) k hg, gridN_free bs (by omega) (by omega) (by omega) k hg, gridN_free bs (by omega) (by omega) (by omega) k hg]
  constructor
  · rintro ⟨⟨h1, h2⟩, h3⟩ j hj
    exact (comI_two hb (hg j hj)).2 ⟨h1 j hj, h2 j hj, h3 j hj⟩
  · intro h
    exact ⟨⟨fun j hj => ((comI_two hb (hg j hj)).1 (h j hj)).1, fun j hj => ((comI_two hb (hg j hj)).1 (h j hj)).2.1⟩, fun j hj => ((comI_two hb (hg j hj)).1 (h j hj)).2.2⟩

/-- the third point of two points in a list of blocks, or -1 -/
def third : List Blk → Int → Int → Int
  | [], _, _ => -1
  | b :: bs, p, q => if hasB b p && hasB b q then sumB b - p - q else third bs p q

end Go.Proofs.Ytpdkkbimhhhjmaa
