/- Plain laws of tables of products, of sums, and of full systems. Conditions: none. -/
import Derived.Test.YtpdkkbimhhhjmaaP6
import Derived.Test.YtpdkkbimhhhjmaaP7
namespace Go.Proofs.Ytpdkkbimhhhjmaa

def sumN (f : Nat → Nat) : Nat → Nat
  | 0 => 0
  | k + 1 => sumN f k + f k
theorem sumN_le {f : Nat → Nat} {B : Nat} : ∀ n, (∀ i, i < n → f i ≤ B) → sumN f n ≤ n * B := by
  intro n
  induction n with
  | zero => intro _; simp [sumN]
  | succ n ih =>
    intro h
    have h1 := ih (fun i hi => h i (by omega)); have h2 := h n (by omega)
    rw [sumN, Nat.succ_mul]; omega
theorem sumN_full {f : Nat → Nat} {B : Nat} : ∀ n, (∀ i, i < n → f i ≤ B) → (sumN f n = n * B ↔ ∀ i, i < n → f i = B) := by
  intro n
  induction n with
  | zero => intro _; simp [sumN]
  | succ n ih =>
    intro h
    have h0 := sumN_le n (fun i hi => h i (by omega) : ∀ i, i < n → f i ≤ B)
    have h1 := ih (fun i hi => h i (by omega)); have h2 := h n (by omega)
    rw [sumN, Nat.succ_mul]
    constructor
    · intro e i hi
      have h3 : f n = B := by omega
      by_cases hin : i = n
      · subst hin; exact h3
      · exact h1.1 (by omega) i (by omega)
    · intro e
      rw [h1.2 (fun i hi => e i (by omega)), e n (by omega)]
theorem sumN_congr {f g : Nat → Nat} : ∀ n, (∀ i, i < n → f i = g i) → sumN f n = sumN g n := by
  intro n
  induction n with
  | zero => intro _; rfl
  | succ n ih => intro h; rw [sumN, sumN, ih (fun i hi => h i (by omega)), h n (by omega)]
theorem sumN_add (f g : Nat → Nat) : ∀ n, sumN (fun i => f i + g i) n = sumN f n + sumN g n := by
  intro n
  induction n with
  | zero => rfl
  | succ n ih => rw [sumN, sumN, sumN, ih]; omega
theorem sumN_cnt (p : Nat → Bool) : ∀ n, sumN (fun i => if p i = true then 1 else 0) n = cntF p n := by
  intro n
  induction n with
  | zero => rfl
  | succ n ih => rw [sumN, cntF, ih]
theorem sumN_const (c : Nat) : ∀ n, sumN (fun _ => c) n = n * c := by
  intro n
  induction n with
  | zero => simp [sumN]
  | succ n ih => rw [sumN, ih, Nat.succ_mul]

/-- how many triples of n elements are such -/
def cntT (n : Nat) (p : Nat → Nat → Nat → Bool) : Nat := sumN (fun a => sumN (fun b => sumN (fun c => if p a b c = true then 1 else 0) n) n) n
theorem cntT_congr {n : Nat} {p q : Nat → Nat → Nat → Bool} (h : ∀ a b c, a < n → b < n → c < n → p a b c = q a b c) : cntT n p = cntT n q :=
  sumN_congr n fun a ha => sumN_congr n fun b hb => sumN_congr n fun c hc => by rw [h a b c ha hb hc]
theorem cntT_all {n : Nat} {p : Nat → Nat → Nat → Bool} : cntT n p = n * (n * n) ↔ ∀ a, a < n → ∀ b, b < n → ∀ c, c < n → p a b c = true := by
  have h1 : ∀ a b c, (if p a b c = true then 1 else 0) ≤ 1 := by intro a b c; split <;> omega
  have h2 : ∀ a b, sumN (fun c => if p a b c = true then 1 else 0) n ≤ n := by
    intro a b; have := sumN_le (f := fun c => if p a b c = true then 1 else 0) (B := 1) n (fun c _ => h1 a b c); omega
  have h3 : ∀ a, sumN (fun b => sumN (fun c => if p a b c = true then 1 else 0) n) n ≤ n * n := fun a => sumN_le n fun b _ => h2 a b
  unfold cntT
  rw [sumN_full n fun a _ => h3 a]
  constructor
  · intro h a ha b hb c hc
    have h4 := (sumN_full n fun b _ => h2 a b).1 (h a ha) b hb
    have h5 := (sumN_full (B := 1) n fun c _ => h1 a b c).1 (by rw [Nat.mul_one]; exact h4) c hc
    by_cases e : p a b c = true
    · exact e
    · rw [if_neg e] at h5; omega
  · intro h a ha
    rw [sumN_full n fun b _ => h2 a b]
    intro b hb
    have : sumN (fun c => if p a b c = true then 1 else 0) n = n * 1 := (sumN_full (B := 1) n fun c _ => h1 a b c).2 fun c hc => by rw [if_pos (h a ha b hb c hc)]
    rw [this, Nat.mul_one]
theorem cntT_le (n : Nat) (p : Nat → Nat → Nat → Bool) : cntT n p ≤ n * (n * n) := by
  refine sumN_le n fun a _ => sumN_le n fun b _ => ?_
  have := sumN_le (f := fun c => if p a b c = true then 1 else 0) (B := 1) n (fun c _ => by show (if p a b c = true then 1 else 0) ≤ 1; split <;> omega)
  omega

theorem third_symm (xs : List Blk) (p q : Int) : third xs p q = third xs q p := by
  induction xs with
  | nil => rfl
  | cons b bs ih =>
    rw [third, third, ih, Bool.and_comm]
    split
    · omega
    · rfl

theorem deg_sum {v : Int} {xs : List Blk} (ha : areB v xs) : ∀ k, k ≤ xs.length → sumN (fun i => (numsN (atP (i : Int)) xs k).length) v.toNat = 3 * k := by
  intro k
  induction k with
  | zero => intro _; have e : sumN (fun i => (numsN (atP (i : Int)) xs 0).length) v.toNat = sumN (fun _ => 0) v.toNat := sumN_congr _ (fun i _ => rfl)
            rw [e, sumN_const]; simp
  | succ k ih =>
    intro hk
    have e : ∀ i : Nat, (numsN (atP (i : Int)) xs (k + 1)).length = (numsN (atP (i : Int)) xs k).length + (if hasB (nth xs k) i = true then 1 else 0) := by
      intro i
      rw [numsN, List.length_append]
      unfold atP
      split <;> simp
    rw [sumN_congr _ (fun i _ => e i), sumN_add, ih (by omega), sumN_cnt]
    have hg := (ha k (by omega)).1
    have hb := good_bd hg
    rw [cntF_has hg, if_pos (by omega), if_pos (by omega), if_pos (by omega)]
    omega
theorem full_cov {v : Int} {xs : List Blk} (hs : isSys v xs) (hf : fullB v xs = true) {p q : Nat} (hp : (p : Int) < v) (hq : (q : Int) < v) (hne : p ≠ q) : ∃ j, j < xs.length ∧ inB (nth xs j) p q = true := by
  obtain ⟨n, rfl⟩ := Int.eq_ofNat_of_zero_le (by have := hs.1.1; omega : 0 ≤ v)
  have hv := hs.1
  have hself : ∀ i, covK xs i xs.length i = false := by
    intro i; rw [← Bool.not_eq_true, covK_iff]; rintro ⟨j, _, h2⟩; exact (inB_iff.1 h2).1 rfl
  have hle : ∀ i, i < n → 2 * (numsN (atP (i : Int)) xs xs.length).length ≤ n - 1 := by
    intro i hi
    have h1 := cov_cnt hs (i := i) (by omega) xs.length (Nat.le_refl _)
    rw [Int.toNat_natCast] at h1
    have h2 := cntF_le (covK xs i xs.length) n
    have h3 : cntF (covK xs i xs.length) n ≠ n := by
      intro e
      have := (cntF_all n).1 e i hi
      rw [hself i] at this; cases this
    omega
  have hsum := deg_sum hs.2.2.1 xs.length (Nat.le_refl _)
  rw [Int.toNat_natCast] at hsum
  have hs2 : sumN (fun i => 2 * (numsN (atP (i : Int)) xs xs.length).length) n = n * (n - 1) := by
    have e : ∀ i, i < n → 2 * (numsN (atP (i : Int)) xs xs.length).length = (numsN (atP (i : Int)) xs xs.length).length + (numsN (atP (i : Int)) xs xs.length).length := fun i _ => by omega
    rw [sumN_congr n e, sumN_add, hsum]
    unfold fullB at hf
    rw [beq_iff_eq] at hf
    have h6 : ((n * (n - 1) : Nat) : Int) = (n : Int) * ((n : Int) - 1) := by push_cast; congr 1; omega
    rw [← h6] at hf
    omega
  have heq := (sumN_full n hle).1 hs2 p (by omega)
  have h1 := cov_cnt hs (i := p) (by omega) xs.length (Nat.le_refl _)
  rw [Int.toNat_natCast] at h1
  have hor := cntF_or (f := covK xs p xs.length) (g := fun q => decide (q = p)) (h := fun q => covK xs p xs.length q || decide (q = p)) n (fun j hj => ⟨rfl, by
    by_cases e : j = p
    · subst e; rw [hself]; rfl
    · simp [e]⟩)
  rw [cntF_eq p n (by omega)] at hor
  have hall := (cntF_all (f := fun q => covK xs p xs.length q || decide (q = p)) n).1 (by omega) q (by omega)
  simp only [Bool.or_eq_true, decide_eq_true_eq] at hall
  rcases hall with h | h
  · exact (covK_iff xs p q xs.length).1 h
  · exact absurd h.symm hne
theorem third_full {v : Int} {xs : List Blk} (hs : isSys v xs) (hf : fullB v xs = true) {p q : Nat} (hp : (p : Int) < v) (hq : (q : Int) < v) (hne : p ≠ q) : 0 ≤ third xs p q ∧ third xs p q < v ∧ third xs p q ≠ p ∧ third xs p q ≠ q := by
  obtain ⟨j, h1, h2⟩ := full_cov hs hf hp hq hne
  rcases first_of (P := fun j => bothB (nth xs j) p q) xs.length with h | ⟨i, k1, k2, k3⟩
  · have := h j h1
    have h3 := inB_iff.1 h2
    unfold bothB at this
    rw [h3.2.1, h3.2.2] at this; cases this
  · rw [third_at p q xs i k1 k2 k3]
    have hin : inB (nth xs i) p q = true := by
      unfold bothB at k2; simp only [Bool.and_eq_true] at k2
      exact inB_iff.2 ⟨by omega, k2.1, k2.2⟩
    have h4 := in_third (hs.2.2.1 i k1).1 hin
    obtain ⟨a1, a2, a3⟩ := inB_iff.1 hin
    have hg := good_bd (hs.2.2.1 i k1).1
    refine ⟨h4.1, h4.2.1, ?_, ?_⟩
    · unfold sumB; rcases has_iff.1 a2 with e | e | e <;> rcases has_iff.1 a3 with e' | e' | e' <;> omega
    · unfold sumB; rcases has_iff.1 a2 with e | e | e <;> rcases has_iff.1 a3 with e' | e' | e' <;> omega

/-- the product of two elements of the loop -/
def loopI (xs : List Blk) (v a b : Int) : Int := if a = v then b else if b = v then a else if a = b then v else third xs a b
theorem prod_bd {v : Int} {xs : List Blk} (hs : isSys v xs) (hf : fullB v xs = true) {a b : Nat} (ha : (a : Int) < v) (hb : (b : Int) < v) : 0 ≤ prodI xs a b ∧ prodI xs a b < v := by
  unfold prodI
  split
  · omega
  · have := third_full hs hf ha hb (by omega); exact ⟨this.1, this.2.1⟩
theorem loop_bd {v : Int} {xs : List Blk} (hs : isSys v xs) (hf : fullB v xs = true) {a b : Nat} (ha : (a : Int) < v + 1) (hb : (b : Int) < v + 1) : 0 ≤ loopI xs v a b ∧ loopI xs v a b < v + 1 := by
  have hv := hs.1
  unfold loopI
  split
  · omega
  · split
    · omega
    · split
      · omega
      · have := third_full hs hf (p := a) (q := b) (by omega) (by omega) (by omega); omega
theorem prod_symm (xs : List Blk) (a b : Int) : prodI xs a b = prodI xs b a := by
  unfold prodI
  by_cases h : a = b
  · subst h; rfl
  · rw [if_neg h, if_neg (Ne.symm h), third_symm]
/-- the row of a of a table -/
def tabR (op : Int → Int → Int) (n : Nat) (a : Nat) : List Int := (List.range n).map fun b : Nat => op (a : Int) (b : Int)
theorem tabR_len (op : Int → Int → Int) (n a : Nat) : (tabR op n a).length = n := by simp [tabR]
theorem tabR_nth (op : Int → Int → Int) {n a b : Nat} (hb : b < n) : nthI (tabR op n a) b = op a b := by simp [tabR, nthI, hb]
theorem tabR_succ (op : Int → Int → Int) (n a : Nat) : tabR op (n + 1) a = tabR op n a ++ [op a n] := by simp [tabR, List.range_succ]
def tab (op : Int → Int → Int) (n : Nat) : List (List Int) := (List.range n).map (tabR op n)
theorem tab_len (op : Int → Int → Int) (n : Nat) : (tab op n).length = n := by simp [tab]

/-- is a table distributive -/
noncomputable def disB (op : Int → Int → Int) (n : Nat) : Bool := open Classical in decide (∀ a b c : Nat, a < n → b < n → c < b → op a (op b c) = op (op a b) (op a c))
theorem disB_true {op : Int → Int → Int} {n : Nat} (h : ∀ a b c : Nat, a < n → b < n → c < b → op a (op b c) = op (op a b) (op a c)) : disB op n = true := by unfold disB; simpa using h
theorem disB_false {op : Int → Int → Int} {n : Nat} (h : ¬ ∀ a b c : Nat, a < n → b < n → c < b → op a (op b c) = op (op a b) (op a c)) : disB op n = false := by unfold disB; simpa using h
theorem disB_cnt {op : Int → Int → Int} {n : Nat} (hsym : ∀ a b, op a b = op b a) (hid : ∀ a, op a a = a) :
    (cntT n (fun a b c => op a (op b c) == op (op a b) (op a c)) == n * (n * n)) = disB op n := by
  rw [Bool.eq_iff_iff, beq_iff_eq, cntT_all]
  unfold disB
  simp only [decide_eq_true_eq, beq_iff_eq]
  constructor
  · intro h a b c ha hb hc; exact h a ha b hb c (by omega)
  · intro h a ha b hb c hc
    rcases Nat.lt_trichotomy c b with hlt | rfl | hgt
    · exact h a b c ha hb hlt
    · rw [hid, hid]
    · rw [hsym b c, hsym (op a b) (op a c)]; exact h a c b ha hc hgt

end Go.Proofs.Ytpdkkbimhhhjmaa
