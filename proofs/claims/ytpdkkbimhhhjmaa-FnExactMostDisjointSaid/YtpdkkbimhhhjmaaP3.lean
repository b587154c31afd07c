/- Plain laws of sets of points as digits in base 2: sets of disjoint blocks, classes. Conditions: none. -/
import Derived.Test.YtpdkkbimhhhjmaaP2
import Derived.Laws.Entries
namespace Go.Proofs.Ytpdkkbimhhhjmaa

theorem ofInt64_nat (a : Nat) (ha : a < 4611686018427387904) : (BitVec.ofInt 64 (a : Int)).toNat = a := by
  rw [BitVec.toNat_ofInt]; omega
theorem wrap_i64_nat (a : Nat) (ha : a < 4611686018427387904) : IntKind.i64.wrap (a : Int) = a := by
  simp [IntKind.wrap, IntKind.bits, IntKind.signed]; omega
theorem bits_and_nat (a b : Nat) (ha : a < 4611686018427387904) (hb : b < 4611686018427387904) : bits .and .i64 (a : Int) (b : Int) = ((a &&& b : Nat) : Int) := by
  have hx : a &&& b < 4611686018427387904 := Nat.lt_of_le_of_lt Nat.and_le_left ha
  show IntKind.i64.wrap ((BitVec.ofInt 64 (a : Int) &&& BitVec.ofInt 64 (b : Int)).toNat : Int) = _
  rw [BitVec.toNat_and, ofInt64_nat a ha, ofInt64_nat b hb, wrap_i64_nat _ hx]
theorem bits_or_nat (a b : Nat) (ha : a < 4611686018427387904) (hb : b < 4611686018427387904) : bits .or .i64 (a : Int) (b : Int) = ((a ||| b : Nat) : Int) := by
  have hx : a ||| b < 2 ^ 62 := Nat.or_lt_two_pow (by simpa using ha) (by simpa using hb)
  show IntKind.i64.wrap ((BitVec.ofInt 64 (a : Int) ||| BitVec.ofInt 64 (b : Int)).toNat : Int) = _
  rw [BitVec.toNat_or, ofInt64_nat a ha, ofInt64_nat b hb, wrap_i64_nat _ (by simpa using hx)]

/-- the points of a block as digits -/
def maskB (b : Blk) : Nat := 2 ^ b.1.toNat + 2 ^ b.2.1.toNat + 2 ^ b.2.2.toNat
theorem pow_lt3 {x y z : Nat} (h1 : x < y) (h2 : y < z) : 2 ^ x + 2 ^ y < 2 ^ z := by
  have e1 : 2 ^ x < 2 ^ y := Nat.pow_lt_pow_right (by omega) h1
  have e2 : 2 ^ (y + 1) ≤ 2 ^ z := Nat.pow_le_pow_right (by omega) h2
  rw [Nat.pow_succ] at e2
  omega
theorem pow_or3 {x y z : Nat} (h1 : x < y) (h2 : y < z) : 2 ^ x + 2 ^ y + 2 ^ z = 2 ^ x ||| 2 ^ y ||| 2 ^ z := by
  have e1 : 2 ^ x < 2 ^ y := Nat.pow_lt_pow_right (by omega) h1
  have a1 := Nat.two_pow_add_eq_or_of_lt e1 1
  have a2 := Nat.two_pow_add_eq_or_of_lt (pow_lt3 h1 h2) 1
  rw [Nat.mul_one] at a1 a2
  rw [show 2 ^ x + 2 ^ y + 2 ^ z = 2 ^ z + (2 ^ x + 2 ^ y) by omega, a2, show 2 ^ x + 2 ^ y = 2 ^ y + 2 ^ x by omega, a1, Nat.or_comm (2 ^ y), Nat.or_comm (2 ^ z)]
theorem maskB_bit {v : Int} {b : Blk} (hg : goodB v b = true) (j : Nat) : (maskB b).testBit j = hasB b j := by
  have h := good_bd hg
  unfold maskB
  rw [pow_or3 (by omega) (by omega), Nat.testBit_or, Nat.testBit_or, Nat.testBit_two_pow, Nat.testBit_two_pow, Nat.testBit_two_pow]
  unfold hasB
  rw [Bool.eq_iff_iff]
  simp only [Bool.or_eq_true, decide_eq_true_eq]
  omega
theorem maskB_lt {v : Int} {b : Blk} (hg : goodB v b = true) : maskB b < 2 ^ v.toNat := by
  have h := good_bd hg
  have h1 := pow_lt3 (x := b.1.toNat) (y := b.2.1.toNat) (z := b.2.2.toNat) (by omega) (by omega)
  have h2 : 2 ^ (b.2.2.toNat + 1) ≤ 2 ^ v.toNat := Nat.pow_le_pow_right (by omega) (by omega)
  rw [Nat.pow_succ] at h2
  unfold maskB; omega
theorem pow15 {v : Int} (h : v ≤ 15) : 2 ^ v.toNat ≤ 32768 := by
  have : 2 ^ v.toNat ≤ 2 ^ 15 := Nat.pow_le_pow_right (by omega) (by omega)
  simpa using this

/-- the block that a place of a list tells -/
def blkAt (xs : List Blk) (ls : List Int) (k : Nat) : Blk := nth xs (nthI ls k).toNat
/-- the points of the first k blocks of a list -/
def uni (xs : List Blk) (ls : List Int) : Nat → Nat
  | 0 => 0
  | k + 1 => uni xs ls k ||| maskB (blkAt xs ls k)
def apart (xs : List Blk) (ls : List Int) (k : Nat) : Prop := ∀ i, i < k → ∀ j, j < i → meetB (blkAt xs ls i) (blkAt xs ls j) = false
noncomputable def apartB (xs : List Blk) (ls : List Int) : Bool := open Classical in decide (apart xs ls ls.length)
theorem apartB_true {xs : List Blk} {ls : List Int} (h : apart xs ls ls.length) : apartB xs ls = true := by unfold apartB; simp [h]
theorem apartB_false {xs : List Blk} {ls : List Int} (h : ¬ apart xs ls ls.length) : apartB xs ls = false := by unfold apartB; simp [h]
theorem apartB_iff {xs : List Blk} {ls : List Int} : apartB xs ls = true ↔ apart xs ls ls.length := by unfold apartB; simp

section
variable {v : Int} {xs : List Blk} {ls : List Int} (ha : areB v xs) (hr : risesI ls xs.length)
include ha hr
theorem blkAt_good {k : Nat} (hk : k < ls.length) : goodB v (blkAt xs ls k) = true := by
  have := (hr k hk).1
  exact (ha (nthI ls k).toNat (by omega)).1
theorem uni_bit (j : Nat) : ∀ k, k ≤ ls.length → ((uni xs ls k).testBit j = true ↔ ∃ i, i < k ∧ hasB (blkAt xs ls i) j = true) := by
  intro k
  induction k with
  | zero => intro _; simp [uni]
  | succ k ih =>
    intro hk
    rw [uni, Nat.testBit_or, Bool.or_eq_true, ih (by omega), maskB_bit (blkAt_good ha hr (by omega))]
    constructor
    · rintro (⟨i, h1, h2⟩ | h)
      · exact ⟨i, by omega, h2⟩
      · exact ⟨k, by omega, h⟩
    · rintro ⟨i, h1, h2⟩
      by_cases hik : i = k
      · subst hik; exact .inr h2
      · exact .inl ⟨i, by omega, h2⟩
theorem uni_lt : ∀ k, k ≤ ls.length → uni xs ls k < 2 ^ v.toNat := by
  intro k
  induction k with
  | zero => intro _; exact Nat.two_pow_pos _
  | succ k ih => intro hk; exact Nat.or_lt_two_pow (ih (by omega)) (maskB_lt (blkAt_good ha hr (by omega)))
theorem uni_meet {k : Nat} (hk : k < ls.length) : (uni xs ls k &&& maskB (blkAt xs ls k) = 0) ↔ ∀ j, j < k → meetB (blkAt xs ls k) (blkAt xs ls j) = false := by
  have hg := blkAt_good ha hr hk
  have hb := good_bd hg
  have hbit : ∀ j : Nat, ((uni xs ls k &&& maskB (blkAt xs ls k)).testBit j = true ↔ (∃ i, i < k ∧ hasB (blkAt xs ls i) j = true) ∧ hasB (blkAt xs ls k) j = true) := by
    intro j
    rw [Nat.testBit_and, Bool.and_eq_true, uni_bit ha hr j k (by omega), maskB_bit hg]
  constructor
  · intro h0 j hj
    rw [h0] at hbit
    simp only [Nat.zero_testBit, Bool.false_eq_true, false_iff] at hbit
    rw [← Bool.not_eq_true]
    intro hm
    unfold meetB at hm
    simp only [Bool.or_eq_true] at hm
    have key : ∀ p : Int, 0 ≤ p → hasB (blkAt xs ls k) p = true → hasB (blkAt xs ls j) p = true → False := by
      intro p hp h1 h2
      have := hbit p.toNat
      rw [Int.toNat_of_nonneg hp] at this
      exact this ⟨⟨j, hj, h2⟩, h1⟩
    rcases hm with (hm | hm) | hm
    · exact key _ (by omega) (by simp [hasB]) hm
    · exact key _ (by omega) (by simp [hasB]) hm
    · exact key _ (by omega) (by simp [hasB]) hm
  · intro h
    apply Nat.eq_of_testBit_eq
    intro j
    rw [Nat.zero_testBit, ← Bool.not_eq_true, hbit]
    rintro ⟨⟨i, hi, h1⟩, h2⟩
    have := h i hi
    unfold meetB at this
    simp only [Bool.or_eq_false_iff] at this
    rcases has_iff.1 h2 with h2 | h2 | h2 <;> rw [← h2] at h1 <;> simp_all
end

/-- how many of the first n numbers are such -/
def cntF (f : Nat → Bool) : Nat → Nat
  | 0 => 0
  | n + 1 => cntF f n + (if f n then 1 else 0)
theorem cntF_le (f : Nat → Bool) (n : Nat) : cntF f n ≤ n := by
  induction n with
  | zero => simp [cntF]
  | succ n ih => simp only [cntF]; split <;> omega
theorem cntF_or {f g h : Nat → Bool} (n : Nat) (hd : ∀ j, j < n → (h j = (f j || g j)) ∧ (f j && g j) = false) : cntF h n = cntF f n + cntF g n := by
  induction n with
  | zero => simp [cntF]
  | succ n ih =>
    obtain ⟨e1, e2⟩ := hd n (by omega)
    simp only [cntF, ih (fun j hj => hd j (by omega)), e1]
    cases hf : f n <;> cases hg : g n <;> simp_all <;> omega
theorem cntF_all {f : Nat → Bool} (n : Nat) : cntF f n = n ↔ ∀ j, j < n → f j = true := by
  induction n with
  | zero => simp [cntF]
  | succ n ih =>
    have := cntF_le f n
    simp only [cntF]
    constructor
    · intro h j hj
      cases hf : f n
      · rw [hf] at h; simp at h; omega
      · rw [hf] at h
        by_cases hjn : j = n
        · subst hjn; exact hf
        · exact (ih.1 (by simpa using h)) j (by omega)
    · intro h
      rw [ih.2 (fun j hj => h j (by omega)), h n (by omega)]; rfl
theorem cntF_has {v : Int} {b : Blk} (hg : goodB v b = true) (n : Nat) : cntF (fun j => hasB b j) n = (if b.1 < n then 1 else 0) + (if b.2.1 < n then 1 else 0) + (if b.2.2 < n then 1 else 0) := by
  have h := good_bd hg
  induction n with
  | zero => simp only [cntF]; (repeat' split) <;> omega
  | succ n ih =>
    rw [cntF, ih]
    simp only [hasB, decide_eq_true_eq]
    (repeat' split) <;> omega

theorem uni_cnt {v : Int} {xs : List Blk} {ls : List Int} (ha : areB v xs) (hr : risesI ls xs.length) (hd : apart xs ls ls.length) : ∀ k, k ≤ ls.length → cntF (fun j => (uni xs ls k).testBit j) v.toNat = 3 * k := by
  intro k
  induction k with
  | zero =>
    intro _
    have : ∀ n, cntF (fun j => (uni xs ls 0).testBit j) n = 0 := by intro n; induction n with
      | zero => rfl
      | succ n ih => simp only [cntF, ih]; simp [uni]
    simpa using this _
  | succ k ih =>
    intro hk
    have hg := blkAt_good ha hr (k := k) (by omega)
    have hb := good_bd hg
    have hm := (uni_meet ha hr (by omega : k < ls.length)).2 (hd k (by omega))
    rw [cntF_or (f := fun j => (uni xs ls k).testBit j) (g := fun j => hasB (blkAt xs ls k) j) v.toNat, ih (by omega), cntF_has hg, if_pos (by omega), if_pos (by omega), if_pos (by omega)]
    · omega
    · intro j _
      refine ⟨by rw [uni, Nat.testBit_or, maskB_bit hg], ?_⟩
      have := congrArg (fun m => m.testBit j) hm
      simp only [Nat.testBit_and, maskB_bit hg, Nat.zero_testBit] at this
      exact this
theorem class_iff {v : Int} {xs : List Blk} {ls : List Int} (hv : 0 ≤ v) (ha : areB v xs) (hr : risesI ls xs.length) (hd : apart xs ls ls.length) :
    uni xs ls ls.length = 2 ^ v.toNat - 1 ↔ 3 * (ls.length : Int) = v := by
  have hc := uni_cnt ha hr hd ls.length (Nat.le_refl _)
  have hlt := uni_lt ha hr ls.length (Nat.le_refl _)
  constructor
  · intro h
    have : cntF (fun j => (uni xs ls ls.length).testBit j) v.toNat = v.toNat := by
      rw [cntF_all]; intro j hj; rw [h, Nat.testBit_two_pow_sub_one]; simpa using hj
    omega
  · intro h
    have hall := (cntF_all (f := fun j => (uni xs ls ls.length).testBit j) v.toNat).1 (by omega)
    apply Nat.eq_of_testBit_eq
    intro j
    rw [Nat.testBit_two_pow_sub_one]
    by_cases hj : j < v.toNat
    · rw [hall j hj]; simp [hj]
    · rw [Nat.testBit_lt_two_pow (Nat.lt_of_lt_of_le hlt (Nat.pow_le_pow_right (by omega) (by omega)))]; simp [hj]

end Go.Proofs.Ytpdkkbimhhhjmaa
