/- Plain laws of systems: blocks differ, blocks meet. Conditions: none. -/
import Derived.Test.YtpdkkbimhhhjmaaP1
namespace Go.Proofs.Ytpdkkbimhhhjmaa

theorem bef_trans {a b c : Blk} (h : befB a b = true) (h' : befB b c = true) : befB a c = true := by
  simp only [befB, decide_eq_true_eq] at *; omega
theorem bef_irrefl (a : Blk) : befB a a = false := by simp [befB]
theorem are_bef {v : Int} {bs : List Blk} (h : areB v bs) : ∀ j, j < bs.length → ∀ i, i < j → befB (nth bs i) (nth bs j) = true := by
  intro j
  induction j with
  | zero => intro _ i hi; omega
  | succ j ih =>
    intro hj i hi
    have h1 := (h (j + 1) hj).2 (by omega)
    rw [Nat.add_sub_cancel] at h1
    by_cases hij : i = j
    · subst hij; exact h1
    · exact bef_trans (ih (by omega) i (by omega)) h1
theorem are_inj {v : Int} {bs : List Blk} (h : areB v bs) {i j : Nat} (hi : i < bs.length) (hj : j < bs.length) (e : nth bs i = nth bs j) : i = j := by
  rcases Nat.lt_trichotomy i j with hlt | heq | hgt
  · have := are_bef h j hj i hlt; rw [e, bef_irrefl] at this; cases this
  · exact heq
  · have := are_bef h i hi j hgt; rw [e, bef_irrefl] at this; cases this
theorem eqB_iff {a b : Blk} : eqB a b = true ↔ a = b := by simp [eqB]

theorem comI_symm (a b : Blk) : comI a b = comI b a := by
  have h : ∀ x y : Int, one (x == y) = one (y == x) := by intro x y; rw [Bool.beq_comm]
  unfold comI
  rw [h a.1 b.1, h a.1 b.2.1, h a.1 b.2.2, h a.2.1 b.1, h a.2.1 b.2.1, h a.2.1 b.2.2, h a.2.2 b.1, h a.2.2 b.2.1, h a.2.2 b.2.2]
  omega
theorem meet_iff (a : Blk) {b : Blk} {v : Int} (hg : goodB v b = true) : meetB a b = true ↔ comI a b > 0 := by
  rw [comI_count a hg]
  unfold meetB
  cases hasB b a.1 <;> cases hasB b a.2.1 <;> cases hasB b a.2.2 <;> simp [one]

/-- the blocks that neither are a or b and meet both -/
def neighP (a b : Blk) (c : Blk) : Bool := !eqB c a && !eqB c b && meetB c a && meetB c b
def neighN (xs : List Blk) (i k : Nat) : Nat → Int
  | 0 => 0
  | j + 1 => neighN xs i k j + (if j ≠ i ∧ j ≠ k ∧ comI (nth xs i) (nth xs j) > 0 ∧ comI (nth xs k) (nth xs j) > 0 then 1 else 0)
theorem neighN_bd (xs : List Blk) (i k j : Nat) : 0 ≤ neighN xs i k j ∧ neighN xs i k j ≤ j := by
  induction j with
  | zero => simp [neighN]
  | succ j ih => simp only [neighN]; split <;> omega

theorem neigh_nums {v : Int} {xs : List Blk} (h : areB v xs) {i k : Nat} (hi : i < xs.length) (hk : k < xs.length) : ∀ n, n ≤ xs.length → ((numsN (neighP (nth xs i) (nth xs k)) xs n).length : Int) = neighN xs i k n := by
  intro n
  induction n with
  | zero => intro _; rfl
  | succ n ih =>
    intro hn
    simp only [numsN, neighN, List.length_append]
    rw [Int.natCast_add, ih (by omega)]
    have gi := (h i hi).1; have gk := (h k hk).1
    have key : neighP (nth xs i) (nth xs k) (nth xs n) = true ↔ (n ≠ i ∧ n ≠ k ∧ comI (nth xs i) (nth xs n) > 0 ∧ comI (nth xs k) (nth xs n) > 0) := by
      unfold neighP
      simp only [Bool.and_eq_true, Bool.not_eq_true', meet_iff _ gi, meet_iff _ gk, comI_symm (nth xs n)]
      have e1 : eqB (nth xs n) (nth xs i) = false ↔ n ≠ i := by
        rw [← Bool.not_eq_true, eqB_iff]
        exact ⟨fun h' e => h' (by rw [e]), fun h' e => h' (are_inj h (by omega) hi e)⟩
      have e2 : eqB (nth xs n) (nth xs k) = false ↔ n ≠ k := by
        rw [← Bool.not_eq_true, eqB_iff]
        exact ⟨fun h' e => h' (by rw [e]), fun h' e => h' (are_inj h (by omega) hk e)⟩
      rw [e1, e2]
      simp only [and_assoc]
    by_cases hp : neighP (nth xs i) (nth xs k) (nth xs n) = true
    · rw [if_pos hp, if_pos (key.1 hp)]; rfl
    · rw [if_neg hp, if_neg (fun h' => hp (key.2 h'))]; rfl

end Go.Proofs.Ytpdkkbimhhhjmaa
