/- Plain laws of third points: a grid's cell is the third point of a list. Conditions: none. -/
import Derived.Test.YtpdkkbimhhhjmaaP2
namespace Go.Proofs.Ytpdkkbimhhhjmaa

def bothB (b : Blk) (p q : Int) : Bool := hasB b p && hasB b q
theorem third_at (p q : Int) : ∀ (xs : List Blk) (i : Nat), i < xs.length → bothB (nth xs i) p q = true → (∀ j, j < i → bothB (nth xs j) p q = false) → third xs p q = sumB (nth xs i) - p - q := by
  intro xs
  induction xs with
  | nil => intro i hi; simp at hi
  | cons b bs ih =>
    intro i hi hb hf
    cases i with
    | zero =>
      have : (hasB b p && hasB b q) = true := hb
      rw [third, if_pos this]; rfl
    | succ i =>
      have h0 : (hasB b p && hasB b q) = false := hf 0 (by omega)
      rw [third, if_neg (by rw [h0]; simp), ih i (by simpa using hi) hb (fun j hj => hf (j + 1) (by omega))]; rfl
theorem third_none (p q : Int) : ∀ (xs : List Blk), (∀ j, j < xs.length → bothB (nth xs j) p q = false) → third xs p q = -1 := by
  intro xs
  induction xs with
  | nil => intro _; rfl
  | cons b bs ih =>
    intro hf
    have h0 : (hasB b p && hasB b q) = false := hf 0 (by simp)
    rw [third, if_neg (by rw [h0]; simp), ih (fun j hj => hf (j + 1) (by simpa using hj))]
theorem first_of {P : Nat → Bool} : ∀ n, (∀ j, j < n → P j = false) ∨ ∃ i, i < n ∧ P i = true ∧ ∀ j, j < i → P j = false := by
  intro n
  induction n with
  | zero => exact .inl fun j hj => by omega
  | succ n ih =>
    rcases ih with h | ⟨i, h1, h2, h3⟩
    · cases hp : P n
      · refine .inl fun j hj => ?_
        by_cases hjn : j = n
        · subst hjn; exact hp
        · exact h j (by omega)
      · exact .inr ⟨n, by omega, hp, h⟩
    · exact .inr ⟨i, by omega, h2, h3⟩

/-- two blocks with two points in common -/
theorem com_two {v v' : Int} {a b : Blk} (ha : goodB v a = true) (hb : goodB v' b = true) {p q : Int} (hne : p ≠ q) (h1 : bothB a p q = true) (h2 : bothB b p q = true) : 1 < comI a b := by
  have hnot : ¬ comI a b ≤ 1 := by
    rw [comI_two ha hb]
    unfold bothB at h1 h2
    simp only [Bool.and_eq_true] at h1 h2
    obtain ⟨h1p, h1q⟩ := h1
    obtain ⟨h2p, h2q⟩ := h2
    rintro ⟨k1, k2, k3⟩
    have key : ∀ x y : Int, hasB b x = true → hasB b y = true → x ≠ y → inB b x y = true := fun x y hx hy hxy => inB_iff.2 ⟨hxy, hx, hy⟩
    rcases has_iff.1 h1p with e1 | e1 | e1 <;> rcases has_iff.1 h1q with e2 | e2 | e2
    · exact hne (e1.symm.trans e2)
    · rw [← e1] at h2p hne; rw [← e2] at h2q hne; rw [key _ _ h2p h2q hne] at k1; cases k1
    · rw [← e1] at h2p hne; rw [← e2] at h2q hne; rw [key _ _ h2p h2q hne] at k2; cases k2
    · rw [← e1] at h2p hne; rw [← e2] at h2q hne; rw [key _ _ h2q h2p (Ne.symm hne)] at k1; cases k1
    · exact hne (e1.symm.trans e2)
    · rw [← e1] at h2p hne; rw [← e2] at h2q hne; rw [key _ _ h2p h2q hne] at k3; cases k3
    · rw [← e1] at h2p hne; rw [← e2] at h2q hne; rw [key _ _ h2q h2p (Ne.symm hne)] at k2; cases k2
    · rw [← e1] at h2p hne; rw [← e2] at h2q hne; rw [key _ _ h2q h2p (Ne.symm hne)] at k3; cases k3
    · exact hne (e1.symm.trans e2)
  omega

theorem gridN_at (bs : List Blk) {p q : Int} (hp : 0 ≤ p) (hq : 0 ≤ q) (hq' : q < 15) {i : Nat} : ∀ k, (∀ j, j < k → goodB 15 (nth bs j) = true) → i < k → inB (nth bs i) p q = true → (∀ j, j < k → j ≠ i → inB (nth bs j) p q = false) →
    gridN bs k (p.toNat * 15 + q.toNat) = sumB (nth bs i) - p - q := by
  intro k
  induction k with
  | zero => intro _ h; omega
  | succ k ih =>
    intro hg hi h hot
    rw [gridN, putG_cell _ (hg k (by omega)) hp hq hq']
    by_cases hik : i = k
    · subst hik; rw [if_pos h, if_pos rfl]
    · rw [if_neg (by rw [hot k (by omega) (Ne.symm hik)]; simp)]
      exact ih (fun j hj => hg j (by omega)) (by omega) h (fun j hj hne => hot j (by omega) hne)

theorem gridN_third {v : Int} {xs : List Blk} (hs : isSys v xs) {p q : Int} (hp : 0 ≤ p) (hq : 0 ≤ q) (hq' : q < 15) (hne : p ≠ q) : gridN xs xs.length (p.toNat * 15 + q.toNat) = third xs p q := by
  have hg : ∀ j, j < xs.length → goodB 15 (nth xs j) = true := fun j hj => good_mono (hs.2.2.1 j hj).1 hs.1.2
  have hin : ∀ j, inB (nth xs j) p q = bothB (nth xs j) p q := by
    intro j; unfold inB bothB; simp [hne]
  rcases first_of (P := fun j => bothB (nth xs j) p q) xs.length with h | ⟨i, h1, h2, h3⟩
  · rw [third_none p q xs h, gridN_free xs hp hq hq' xs.length hg]
    intro j hj; rw [hin]; exact h j hj
  · rw [third_at p q xs i h1 h2 h3]
    refine gridN_at xs hp hq hq' xs.length hg h1 (by rw [hin]; exact h2) (fun j hj hne' => ?_)
    rw [hin, ← Bool.not_eq_true]
    intro hj2
    rcases Nat.lt_or_gt_of_ne hne' with hlt | hgt
    · have := hs.2.2.2 i h1 j hlt
      have := com_two (hg i h1) (hg j hj) hne h2 hj2
      omega
    · have := hs.2.2.2 j hj i hgt
      have := com_two (hg j hj) (hg i h1) hne hj2 h2
      omega
theorem third_bd {v : Int} {xs : List Blk} (ha : areB v xs) (p q : Int) (hne : p ≠ q) : -1 ≤ third xs p q ∧ (third xs p q < v ∨ third xs p q = -1) := by
  rcases first_of (P := fun j => bothB (nth xs j) p q) xs.length with h | ⟨i, h1, h2, h3⟩
  · rw [third_none p q xs h]; omega
  · rw [third_at p q xs i h1 h2 h3]
    have := in_third (ha i h1).1 (p := p) (q := q) (by unfold inB; unfold bothB at h2; simp [hne]; simpa using h2)
    omega

/-- the product of two points -/
def prodI (xs : List Blk) (a b : Int) : Int := if a = b then a else third xs a b
def fullB (v : Int) (xs : List Blk) : Bool := 6 * (xs.length : Int) == v * (v - 1)
/-- all numbers lie from 0 to m -/
def allIn (ls : List Int) (m : Int) : Prop := ∀ k, k < ls.length → 0 ≤ nthI ls k ∧ nthI ls k ≤ m
noncomputable def allInB (ls : List Int) (m : Int) : Bool := open Classical in decide (allIn ls m)
theorem allInB_true {ls : List Int} {m : Int} (h : allIn ls m) : allInB ls m = true := by unfold allInB; simpa using h
theorem allInB_false {ls : List Int} {m : Int} (h : ¬ allIn ls m) : allInB ls m = false := by unfold allInB; simpa using h
theorem allInB_iff {ls : List Int} {m : Int} : allInB ls m = true ↔ allIn ls m := by unfold allInB; simp
/-- the code of numbers up to m and of a system that has to be full -/
noncomputable def elCode (v : Int) (xs : List Blk) (m : Int) (ls : List Int) : Int := if isSysB v xs = true then (if allInB ls m = true then (if fullB v xs = true then 0 else 5) else 2) else 1

end Go.Proofs.Ytpdkkbimhhhjmaa
