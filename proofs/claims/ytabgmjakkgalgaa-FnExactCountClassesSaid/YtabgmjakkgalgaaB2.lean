/- Plain laws and contracts, part 2; conditions: stated in each. -/
import Derived.Laws.Entries
import Derived.Laws.OwnMore
import Derived.Deep.RegionHeld3
import Derived.Deep.AppendLies
import Derived.Laws.Cover3
import Derived.ChangeKeysEq
import Derived.Test.YtabgmjakkgalgaaB1
set_option linter.unusedSimpArgs false
set_option linter.unusedVariables false
/- Plain laws of sets of points as digits in base 2: sets of disjoint blocks, classes. Conditions: none. -/
namespace Go.Proofs.Ytabgmjakkgalgaa

theorem ofInt64_nat (a : Nat) (ha : a < 4611686018427387904) : (BitVec.ofInt 64 (a : Int)).toNat = a := by
  rw [BitVec.toNat_ofInt]; omega
theorem wrap_i64_nat (a : Nat) (ha : a < 4611686018427387904) : IntKind.i64.wrap (a : Int) = a := by
  simp [IntKind.wrap, IntKind.bits, IntKind.signed]; omega
theorem bits_and_nat (a b : Nat) (ha : a < 4611686018427387904) (hb : b < 4611686018427387904) : bits .and .i64 (a : Int) (b : Int) = ((a &&& b : Nat) : Int) := by
  have hx : a &&& b < 4611686018427387904 := Nat.lt_of_le_of_lt Nat.and_le_left ha
  show IntKind.i64.wrap ((BitVec.ofInt 64 (a : Int) &&& BitVec.ofInt 64 (b : Int)).toNat : Int) = _
  rw [BitVec.toNat_and, ofInt64_nat a ha, ofInt64_nat b hb, wrap_i64_nat _ hx]
theorem bits_or_nat (a b : Nat) (ha : a < 4611686018427387904) (hb : b < 4611686018427387904) : bits .or .i64 (a : Int) (b : Int) = ((a ||| b : Nat) : Int) := by
  have hx : a ||| b < 2 ^ 62 := Nat.or_lt_two_pow (by simpa using ha) (by simpa using hb)
  show IntKind.i64.wrap ((BitVec.ofInt 64 (a : Int) ||| BitVec.ofInt 64 (b : Int)).toNat : Int) = _
  rw [BitVec.toNat_or, ofInt64_nat a ha, ofInt64_nat b hb, wrap_i64_nat _ (by simpa using hx)]

/-- the points of a block as digits -/
def maskB (b : Blk) : Nat := 2 ^ b.1.toNat + 2 ^ b.2.1.toNat + 2 ^ b.2.2.toNat
theorem pow_lt3 {x y z : Nat} (h1 : x < y) (h2 : y < z) : 2 ^ x + 2 ^ y < 2 ^ z := by
  have e1 : 2 ^ x < 2 ^ y := Nat.pow_lt_pow_right (by omega) h1
  have e2 : 2 ^ (y + 1) ≤ 2 ^ z := Nat.pow_le_pow_right (by omega) h2
  rw [Nat.pow_succ] at e2
  omega
theorem pow_or3 {x y z : Nat} (h1 : x < y) (h2 : y < z) : 2 ^ x + 2 ^ y + 2 ^ z = 2 ^ x ||| 2 ^ y ||| 2 ^ z := by
  have e1 : 2 ^ x < 2 ^ y := Nat.pow_lt_pow_right (by omega) h1
  have a1 := Nat.two_pow_add_eq_or_of_lt e1 1
  have a2 := Nat.two_pow_add_eq_or_of_lt (pow_lt3 h1 h2) 1
  rw [Nat.mul_one] at a1 a2
  rw [show 2 ^ x + 2 ^ y + 2 ^ z = 2 ^ z + (2 ^ x + 2 ^ y) by omega, a2, show 2 ^ x + 2 ^ y = 2 ^ y + 2 ^ x by omega, a1, Nat.or_comm (2 ^ y), Nat.or_comm (2 ^ z)]
theorem maskB_bit {v : Int} {b : Blk} (hg : goodB v b = true) (j : Nat) : (maskB b).testBit j = hasB b j := by
  have h := good_bd hg
  unfold maskB
  rw [pow_or3 (by omega) (by omega), Nat.testBit_or, Nat.testBit_or, Nat.testBit_two_pow, Nat.testBit_two_pow, Nat.testBit_two_pow]
  unfold hasB
  rw [Bool.eq_iff_iff]
  simp only [Bool.or_eq_true, decide_eq_true_eq]
  omega
theorem maskB_lt {v : Int} {b : Blk} (hg : goodB v b = true) : maskB b < 2 ^ v.toNat := by
  have h := good_bd hg
  have h1 := pow_lt3 (x := b.1.toNat) (y := b.2.1.toNat) (z := b.2.2.toNat) (by omega) (by omega)
  have h2 : 2 ^ (b.2.2.toNat + 1) ≤ 2 ^ v.toNat := Nat.pow_le_pow_right (by omega) (by omega)
  rw [Nat.pow_succ] at h2
  unfold maskB; omega
theorem pow15 {v : Int} (h : v ≤ 15) : 2 ^ v.toNat ≤ 32768 := by
  have : 2 ^ v.toNat ≤ 2 ^ 15 := Nat.pow_le_pow_right (by omega) (by omega)
  simpa using this

/-- the block that a place of a list tells -/
def blkAt (xs : List Blk) (ls : List Int) (k : Nat) : Blk := nth xs (nthI ls k).toNat
/-- the points of the first k blocks of a list -/
def uni (xs : List Blk) (ls : List Int) : Nat → Nat
  | 0 => 0
  | k + 1 => uni xs ls k ||| maskB (blkAt xs ls k)
def apart (xs : List Blk) (ls : List Int) (k : Nat) : Prop := ∀ i, i < k → ∀ j, j < i → meetB (blkAt xs ls i) (blkAt xs ls j) = false
noncomputable def apartB (xs : List Blk) (ls : List Int) : Bool := open Classical in decide (apart xs ls ls.length)
theorem apartB_true {xs : List Blk} {ls : List Int} (h : apart xs ls ls.length) : apartB xs ls = true := by unfold apartB; simp [h]
theorem apartB_false {xs : List Blk} {ls : List Int} (h : ¬ apart xs ls ls.length) : apartB xs ls = false := by unfold apartB; simp [h]
theorem apartB_iff {xs : List Blk} {ls : List Int} : apartB xs ls = true ↔ apart xs ls ls.length := by unfold apartB; simp

section
variable {v : Int} {xs : List Blk} {ls : List Int} (ha : areB v xs) (hr : risesI ls xs.length)
include ha hr
theorem blkAt_good {k : Nat} (hk : k < ls.length) : goodB v (blkAt xs ls k) = true := by
  have := (hr k hk).1
  exact (ha (nthI ls k).toNat (by omega)).1
theorem uni_bit (j : Nat) : ∀ k, k ≤ ls.length → ((uni xs ls k).testBit j = true ↔ ∃ i, i < k ∧ hasB (blkAt xs ls i) j = true) := by
  intro k
  induction k with
  | zero => intro _; simp [uni]
  | succ k ih =>
    intro hk
    rw [uni, Nat.testBit_or, Bool.or_eq_true, ih (by omega), maskB_bit (blkAt_good ha hr (by omega))]
    constructor
    · rintro (⟨i, h1, h2⟩ | h)
      · exact ⟨i, by omega, h2⟩
      · exact ⟨k, by omega, h⟩
    · rintro ⟨i, h1, h2⟩
      by_cases hik : i = k
      · subst hik; exact .inr h2
      · exact .inl ⟨i, by omega, h2⟩
theorem uni_lt : ∀ k, k ≤ ls.length → uni xs ls k < 2 ^ v.toNat := by
  intro k
  induction k with
  | zero => intro _; exact Nat.two_pow_pos _
  | succ k ih => intro hk; exact Nat.or_lt_two_pow (ih (by omega)) (maskB_lt (blkAt_good ha hr (by omega)))
theorem uni_meet {k : Nat} (hk : k < ls.length) : (uni xs ls k &&& maskB (blkAt xs ls k) = 0) ↔ ∀ j, j < k → meetB (blkAt xs ls k) (blkAt xs ls j) = false := by
  have hg := blkAt_good ha hr hk
  have hb := good_bd hg
  have hbit : ∀ j : Nat, ((uni xs ls k &&& maskB (blkAt xs ls k)).testBit j = true ↔ (∃ i, i < k ∧ hasB (blkAt xs ls i) j = true) ∧ hasB (blkAt xs ls k) j = true) := by
    intro j
    rw [Nat.testBit_and, Bool.and_eq_true, uni_bit ha hr j k (by omega), maskB_bit hg]
  constructor
  · intro h0 j hj
    rw [h0] at hbit
    simp only [Nat.zero_testBit, Bool.false_eq_true, false_iff] at hbit
    rw [← Bool.not_eq_true]
    intro hm
    unfold meetB at hm
    simp only [Bool.or_eq_true] at hm
    have key : ∀ p : Int, 0 ≤ p → hasB (blkAt xs ls k) p = true → hasB (blkAt xs ls j) p = true → False := by
      intro p hp h1 h2
      have := hbit p.toNat
      rw [Int.toNat_of_nonneg hp] at this
      exact this ⟨⟨j, hj, h2⟩, h1⟩
    rcases hm with (hm | hm) | hm
    · exact key _ (by omega) (by simp [hasB]) hm
    · exact key _ (by omega) (by simp [hasB]) hm
    · exact key _ (by omega) (by simp [hasB]) hm
  · intro h
    apply Nat.eq_of_testBit_eq
    intro j
    rw [Nat.zero_testBit, ← Bool.not_eq_true, hbit]
    rintro ⟨⟨i, hi, h1⟩, h2⟩
    have := h i hi
    unfold meetB at this
    simp only [Bool.or_eq_false_iff] at this
    rcases has_iff.1 h2 with h2 | h2 | h2 <;> rw [← h2] at h1 <;> simp_all
end

/-- how many of the first n numbers are such -/
def cntF (f : Nat → Bool) : Nat → Nat
  | 0 => 0
  | n + 1 => cntF f n + (if f n then 1 else 0)
theorem cntF_le (f : Nat → Bool) (n : Nat) : cntF f n ≤ n := by
  induction n with
  | zero => simp [cntF]
  | succ n ih => simp only [cntF]; split <;> omega
theorem cntF_or {f g h : Nat → Bool} (n : Nat) (hd : ∀ j, j < n → (h j = (f j || g j)) ∧ (f j && g j) = false) : cntF h n = cntF f n + cntF g n := by
  induction n with
  | zero => simp [cntF]
  | succ n ih =>
    obtain ⟨e1, e2⟩ := hd n (by omega)
    simp only [cntF, ih (fun j hj => hd j (by omega)), e1]
    cases hf : f n <;> cases hg : g n <;> simp_all <;> omega
theorem cntF_all {f : Nat → Bool} (n : Nat) : cntF f n = n ↔ ∀ j, j < n → f j = true := by
  induction n with
  | zero => simp [cntF]
  | succ n ih =>
    have := cntF_le f n
    simp only [cntF]
    constructor
    · intro h j hj
      cases hf : f n
      · rw [hf] at h; simp at h; omega
      · rw [hf] at h
        by_cases hjn : j = n
        · subst hjn; exact hf
        · exact (ih.1 (by simpa using h)) j (by omega)
    · intro h
      rw [ih.2 (fun j hj => h j (by omega)), h n (by omega)]; rfl
theorem cntF_has {v : Int} {b : Blk} (hg : goodB v b = true) (n : Nat) : cntF (fun j => hasB b j) n = (if b.1 < n then 1 else 0) + (if b.2.1 < n then 1 else 0) + (if b.2.2 < n then 1 else 0) := by
  have h := good_bd hg
  induction n with
  | zero => simp only [cntF]; (repeat' split) <;> omega
  | succ n ih =>
    rw [cntF, ih]
    simp only [hasB, decide_eq_true_eq]
    (repeat' split) <;> omega

theorem uni_cnt {v : Int} {xs : List Blk} {ls : List Int} (ha : areB v xs) (hr : risesI ls xs.length) (hd : apart xs ls ls.length) : ∀ k, k ≤ ls.length → cntF (fun j => (uni xs ls k).testBit j) v.toNat = 3 * k := by
  intro k
  induction k with
  | zero =>
    intro _
    have : ∀ n, cntF (fun j => (uni xs ls 0).testBit j) n = 0 := by intro n; induction n with
      | zero => rfl
      | succ n ih => simp only [cntF, ih]; simp [uni]
    simpa using this _
  | succ k ih =>
    intro hk
    have hg := blkAt_good ha hr (k := k) (by omega)
    have hb := good_bd hg
    have hm := (uni_meet ha hr (by omega : k < ls.length)).2 (hd k (by omega))
    rw [cntF_or (f := fun j => (uni xs ls k).testBit j) (g := fun j => hasB (blkAt xs ls k) j) v.toNat, ih (by omega), cntF_has hg, if_pos (by omega), if_pos (by omega), if_pos (by omega)]
    · omega
    · intro j _
      refine ⟨by rw [uni, Nat.testBit_or, maskB_bit hg], ?_⟩
      have := congrArg (fun m => m.testBit j) hm
      simp only [Nat.testBit_and, maskB_bit hg, Nat.zero_testBit] at this
      exact this
theorem class_iff {v : Int} {xs : List Blk} {ls : List Int} (hv : 0 ≤ v) (ha : areB v xs) (hr : risesI ls xs.length) (hd : apart xs ls ls.length) :
    uni xs ls ls.length = 2 ^ v.toNat - 1 ↔ 3 * (ls.length : Int) = v := by
  have hc := uni_cnt ha hr hd ls.length (Nat.le_refl _)
  have hlt := uni_lt ha hr ls.length (Nat.le_refl _)
  constructor
  · intro h
    have : cntF (fun j => (uni xs ls ls.length).testBit j) v.toNat = v.toNat := by
      rw [cntF_all]; intro j hj; rw [h, Nat.testBit_two_pow_sub_one]; simpa using hj
    omega
  · intro h
    have hall := (cntF_all (f := fun j => (uni xs ls ls.length).testBit j) v.toNat).1 (by omega)
    apply Nat.eq_of_testBit_eq
    intro j
    rw [Nat.testBit_two_pow_sub_one]
    by_cases hj : j < v.toNat
    · rw [hall j hj]; simp [hj]
    · rw [Nat.testBit_lt_two_pow (Nat.lt_of_lt_of_le hlt (Nat.pow_le_pow_right (by omega) (by omega)))]; simp [hj]

end Go.Proofs.Ytabgmjakkgalgaa

/- Plain laws of the pairs that are left, and of the degrees of the leave. Conditions: none. -/
namespace Go.Proofs.Ytabgmjakkgalgaa

/-- the pairs a < b < m that are left -/
def prs (G : Nat → Int) (a : Nat) : Nat → List (List Int)
  | 0 => []
  | m + 1 => prs G a m ++ (if a < m ∧ G (a * 15 + m) = -1 then [[(a : Int), (m : Int)]] else [])
def prA (G : Nat → Int) (v : Nat) : Nat → List (List Int)
  | 0 => []
  | k + 1 => prA G v k ++ prs G k v
theorem prs_nil (G : Nat → Int) (a : Nat) : ∀ m, m ≤ a + 1 → prs G a m = [] := by
  intro m
  induction m with
  | zero => intro _; rfl
  | succ m ih => intro h; rw [prs, ih (by omega), if_neg (by omega)]; rfl
theorem prs_len (G : Nat → Int) (a m : Nat) : (prs G a m).length ≤ m := by
  induction m with
  | zero => simp [prs]
  | succ m ih => simp only [prs]; split <;> simp <;> omega
theorem prA_len (G : Nat → Int) {v : Nat} (hv : v ≤ 15) (k : Nat) : (prA G v k).length ≤ 15 * k := by
  induction k with
  | zero => simp [prA]
  | succ k ih =>
    have := prs_len G k v
    simp only [prA, List.length_append]; omega
theorem prs_mem (G : Nat → Int) (a : Nat) : ∀ m, ∀ p ∈ prs G a m, ∃ b : Nat, p = [(a : Int), (b : Int)] ∧ a < b ∧ b < m := by
  intro m
  induction m with
  | zero => intro p hp; simp [prs] at hp
  | succ m ih =>
    intro p hp
    rw [prs, List.mem_append] at hp
    rcases hp with hp | hp
    · obtain ⟨b, h1, h2, h3⟩ := ih p hp; exact ⟨b, h1, h2, by omega⟩
    · split at hp
      · rename_i h
        simp only [List.mem_singleton] at hp
        exact ⟨m, hp, h.1, by omega⟩
      · simp at hp
theorem prA_mem (G : Nat → Int) (v : Nat) : ∀ k, ∀ p ∈ prA G v k, ∃ a b : Nat, p = [(a : Int), (b : Int)] ∧ a < b ∧ b < v := by
  intro k
  induction k with
  | zero => intro p hp; simp [prA] at hp
  | succ k ih =>
    intro p hp
    rw [prA, List.mem_append] at hp
    rcases hp with hp | hp
    · exact ih p hp
    · obtain ⟨b, h⟩ := prs_mem G k v p hp; exact ⟨k, b, h⟩

/-- how often a number is one of a pair's -/
def twoI (p : List Int) (i : Nat) : Nat := (if nthI p 0 = i then 1 else 0) + (if nthI p 1 = i then 1 else 0)
def cntL (i : Nat) : List (List Int) → Nat
  | [] => 0
  | p :: ps => twoI p i + cntL i ps
theorem cntL_app (i : Nat) (ps qs : List (List Int)) : cntL i (ps ++ qs) = cntL i ps + cntL i qs := by
  induction ps with
  | nil => simp [cntL]
  | cons p ps ih => simp only [List.cons_append, cntL, ih]; omega
theorem cntL_take {xss : List (List Int)} {k : Nat} (h : k < xss.length) (i : Nat) : cntL i (xss.take (k + 1)) = cntL i (xss.take k) + twoI (xss.getD k []) i := by
  rw [List.take_add_one, cntL_app]
  simp [h, cntL]
theorem cntL_le (i : Nat) (ps : List (List Int)) : cntL i ps ≤ 2 * ps.length := by
  induction ps with
  | nil => simp [cntL]
  | cons p ps ih =>
    have : twoI p i ≤ 2 := by unfold twoI; (repeat' split) <;> omega
    simp only [cntL, List.length_cons]; omega

theorem cntL_prs (G : Nat → Int) (a i : Nat) : ∀ m, cntL i (prs G a m) = (if a = i then cntF (fun b => decide (a < b) && (G (a * 15 + b) == -1)) m else 0) + (if a < i ∧ i < m ∧ G (a * 15 + i) = -1 then 1 else 0) := by
  intro m
  induction m with
  | zero => simp [prs, cntL, cntF]
  | succ m ih =>
    rw [prs, cntL_app, ih]
    simp only [cntF, Bool.and_eq_true, decide_eq_true_eq, beq_iff_eq]
    by_cases h : a < m ∧ G (a * 15 + m) = -1
    · rw [if_pos h, if_pos h]
      have e : cntL i [[(a : Int), (m : Int)]] = (if a = i then 1 else 0) + (if m = i then 1 else 0) := by
        simp [cntL, twoI, nthI, Int.natCast_inj]
      rw [e]
      by_cases h1 : a = i
      · subst h1
        rw [if_pos rfl, if_pos rfl, if_pos rfl, if_neg (by omega), if_neg (by omega), if_neg (by omega)]; (try omega)
      · rw [if_neg h1, if_neg h1, if_neg h1]
        by_cases h2 : m = i
        · subst h2; rw [if_pos rfl, if_neg (by omega), if_pos ⟨h.1, by omega, h.2⟩]
        · rw [if_neg h2]
          by_cases h3 : a < i ∧ i < m ∧ G (a * 15 + i) = -1
          · rw [if_pos h3, if_pos ⟨h3.1, by omega, h3.2.2⟩]
          · rw [if_neg h3, if_neg (fun h4 => h3 ⟨h4.1, by omega, h4.2.2⟩)]
    · rw [if_neg h, if_neg h]
      have hP : (a < i ∧ i < m ∧ G (a * 15 + i) = -1) ↔ (a < i ∧ i < m + 1 ∧ G (a * 15 + i) = -1) := by
        constructor
        · rintro ⟨h1, h2, h3⟩; exact ⟨h1, by omega, h3⟩
        · rintro ⟨h1, h2, h3⟩
          by_cases him : i = m
          · subst him; exact absurd ⟨h1, h3⟩ h
          · exact ⟨h1, by omega, h3⟩
      simp only [hP, cntL, Nat.add_zero]
theorem cntL_prA (G : Nat → Int) {v i : Nat} (hi : i < v) : ∀ k, k ≤ v → cntL i (prA G v k) = (if i < k then cntF (fun b => decide (i < b) && (G (i * 15 + b) == -1)) v else 0) + cntF (fun a => decide (a < i) && (G (a * 15 + i) == -1)) k := by
  intro k
  induction k with
  | zero => intro _; simp [prA, cntL, cntF]
  | succ k ih =>
    intro hk
    rw [prA, cntL_app, ih (by omega), cntL_prs]
    simp only [cntF, Bool.and_eq_true, decide_eq_true_eq, beq_iff_eq]
    by_cases h1 : k = i
    · subst h1
      have a1 : ¬ (k < k ∧ k < v ∧ G (k * 15 + k) = -1) := fun h => by omega
      have a2 : k < k + 1 := by omega
      have a3 : ¬ (k < k ∧ G (k * 15 + k) = -1) := fun h => by omega
      rw [if_neg (Nat.lt_irrefl k), if_pos rfl, if_neg a1, if_pos a2, if_neg a3]; (try omega)
    · rw [if_neg h1]
      by_cases h2 : i < k
      · have a1 : ¬ (k < i ∧ i < v ∧ G (k * 15 + i) = -1) := fun h => by omega
        have a2 : i < k + 1 := by omega
        have a3 : ¬ (k < i ∧ G (k * 15 + i) = -1) := fun h => by omega
        rw [if_pos h2, if_pos a2, if_neg a1, if_neg a3]; (try omega)
      · have a2 : ¬ i < k + 1 := by omega
        rw [if_neg h2, if_neg a2]
        by_cases h3 : k < i ∧ G (k * 15 + i) = -1
        · rw [if_pos h3, if_pos ⟨h3.1, hi, h3.2⟩]; (try omega)
        · rw [if_neg h3, if_neg (fun h4 => h3 ⟨h4.1, h4.2.2⟩)]; (try omega)

theorem cntF_congr {f g : Nat → Bool} (n : Nat) (h : ∀ j, j < n → f j = g j) : cntF f n = cntF g n := by
  induction n with
  | zero => rfl
  | succ n ih => simp only [cntF, ih (fun j hj => h j (by omega)), h n (by omega)]
theorem cntF_eq (i n : Nat) (h : i < n) : cntF (fun q => decide (q = i)) n = 1 := by
  have key : ∀ n, cntF (fun q => decide (q = i)) n = if i < n then 1 else 0 := by
    intro n
    induction n with
    | zero => rfl
    | succ n ih =>
      simp only [cntF, ih, decide_eq_true_eq]
      (repeat' split) <;> omega
  rw [key, if_pos h]

/-- the blocks with a point -/
def atP (i : Int) (b : Blk) : Bool := hasB b i
theorem cntF_in {v : Int} {b : Blk} (hg : goodB v b = true) {i : Nat} (hi : (i : Int) < v) : cntF (fun q => inB b i q) v.toNat = if hasB b i = true then 2 else 0 := by
  have hb := good_bd hg
  have h3 := cntF_has hg v.toNat
  rw [if_pos (by omega), if_pos (by omega), if_pos (by omega)] at h3
  by_cases h : hasB b i = true
  · rw [if_pos h]
    have := cntF_or (f := fun q => decide (q = i)) (g := fun q => inB b i q) (h := fun q => hasB b q) v.toNat (fun j _ => by
      by_cases hji : j = i
      · subst hji; simp [h, inB]
      · have : (i : Int) ≠ (j : Int) := by omega
        simp [hji, inB, this, h])
    rw [cntF_eq i _ (by omega)] at this
    omega
  · rw [if_neg h]
    have : ∀ n, cntF (fun q => inB b i q) n = 0 := by
      intro n
      induction n with
      | zero => rfl
      | succ n ih => simp only [cntF, ih]; simp [inB, h]
    exact this _

/-- a pair is in one of the first k blocks -/
def covK (xs : List Blk) (i : Nat) : Nat → Nat → Bool
  | 0, _ => false
  | k + 1, q => covK xs i k q || inB (nth xs k) i q
theorem covK_iff (xs : List Blk) (i : Nat) (q : Nat) : ∀ k, covK xs i k q = true ↔ ∃ j, j < k ∧ inB (nth xs j) i q = true := by
  intro k
  induction k with
  | zero => simp [covK]
  | succ k ih =>
    rw [covK, Bool.or_eq_true, ih]
    constructor
    · rintro (⟨j, h1, h2⟩ | h)
      · exact ⟨j, by omega, h2⟩
      · exact ⟨k, by omega, h⟩
    · rintro ⟨j, h1, h2⟩
      by_cases hjk : j = k
      · subst hjk; exact .inr h2
      · exact .inl ⟨j, by omega, h2⟩
theorem cov_cnt {v : Int} {xs : List Blk} (hs : isSys v xs) {i : Nat} (hi : (i : Int) < v) : ∀ k, k ≤ xs.length → cntF (covK xs i k) v.toNat = 2 * (numsN (atP i) xs k).length := by
  intro k
  induction k with
  | zero =>
    intro _
    have : ∀ n, cntF (covK xs i 0) n = 0 := by intro n; induction n with
      | zero => rfl
      | succ n ih => simp only [cntF, ih]; rfl
    rw [this]; rfl
  | succ k ih =>
    intro hk
    rw [cntF_or (f := covK xs i k) (g := fun q => inB (nth xs k) i q) v.toNat, ih (by omega), cntF_in (hs.2.2.1 k (by omega)).1 hi, numsN, List.length_append]
    · have e : atP i (nth xs k) = hasB (nth xs k) i := rfl
      rw [e]
      cases hasB (nth xs k) i <;> simp <;> (try omega)
    · intro q _
      refine ⟨rfl, ?_⟩
      rw [← Bool.not_eq_true, Bool.and_eq_true, covK_iff]
      rintro ⟨⟨j, h1, h2⟩, h3⟩
      have hne := (inB_iff.1 h2).1
      have := com_two (hs.2.2.1 k (by omega)).1 (hs.2.2.1 j (by omega)).1 hne (by unfold bothB; have := inB_iff.1 h3; simp [this.2.1, this.2.2]) (by unfold bothB; have := inB_iff.1 h2; simp [this.2.1, this.2.2])
      have := hs.2.2.2 k (by omega) j h1
      omega

/-- the degree of a point in the leave -/
theorem leave_deg {v : Nat} {xs : List Blk} (hs : isSys v xs) {i : Nat} (hi : i < v) : (cntL i (prA (gridN xs xs.length) v v) : Int) = (v : Int) - 1 - 2 * ((nums (atP i) xs).length : Int) := by
  have hv := hs.1
  have hg : ∀ j, j < xs.length → goodB 15 (nth xs j) = true := fun j hj => good_mono (hs.2.2.1 j hj).1 hs.1.2
  have hfree : ∀ p q : Nat, q < v → p < v → ((gridN xs xs.length (p * 15 + q) == -1) = !covK xs p xs.length q) := by
    intro p q hq hp
    have h := gridN_free xs (p := p) (q := q) (by omega) (by omega) (by omega) xs.length hg
    simp only [Int.toNat_natCast] at h
    cases hc : covK xs p xs.length q
    · rw [Bool.not_false, beq_iff_eq, h]
      intro j hj
      rw [← Bool.not_eq_true]
      intro h2
      rw [(covK_iff xs p q xs.length).2 ⟨j, hj, h2⟩] at hc; cases hc
    · rw [Bool.not_true, beq_eq_false_iff_ne, ne_eq, h]
      intro h2
      obtain ⟨j, hj, h3⟩ := (covK_iff xs p q xs.length).1 hc
      rw [h2 j hj] at h3; cases h3
  have hsym : ∀ p q : Nat, covK xs p xs.length q = covK xs q xs.length p := by
    intro p q
    rw [Bool.eq_iff_iff, covK_iff, covK_iff]
    constructor <;> rintro ⟨j, h1, h2⟩ <;> obtain ⟨a, b, c⟩ := inB_iff.1 h2 <;> exact ⟨j, h1, inB_iff.2 ⟨Ne.symm a, c, b⟩⟩
  have hself : covK xs i xs.length i = false := by
    rw [← Bool.not_eq_true, covK_iff]; rintro ⟨j, _, h2⟩; exact (inB_iff.1 h2).1 rfl
  rw [cntL_prA _ hi v (Nat.le_refl _), if_pos hi]
  have h1 := cov_cnt hs (i := i) (by omega) xs.length (Nat.le_refl _)
  rw [Int.toNat_natCast] at h1
  have e1 : cntF (fun b => decide (i < b) && (gridN xs xs.length (i * 15 + b) == -1)) v = cntF (fun q => decide (i < q) && !covK xs i xs.length q) v :=
    cntF_congr v fun q hq => by rw [hfree i q hq hi]
  have e2 : cntF (fun a => decide (a < i) && (gridN xs xs.length (a * 15 + i) == -1)) v = cntF (fun q => decide (q < i) && !covK xs i xs.length q) v :=
    cntF_congr v fun q hq => by rw [hfree q i hi hq, hsym]
  have e3 := cntF_or (f := fun q => decide (i < q) && !covK xs i xs.length q) (g := fun q => decide (q < i) && !covK xs i xs.length q) (h := fun q => !decide (q = i) && !covK xs i xs.length q) v (fun q _ => by
    rcases Nat.lt_trichotomy q i with h | h | h
    · have a1 : ¬ i < q := by omega
      have a2 : ¬ q = i := by omega
      simp [h, a1, a2]
    · subst h; simp
    · have a1 : ¬ q < i := by omega
      have a2 : ¬ q = i := by omega
      simp [h, a1, a2])
  have e4 := cntF_or (f := fun q => !decide (q = i) && !covK xs i xs.length q) (g := fun q => decide (q = i)) (h := fun q => !covK xs i xs.length q) v (fun q _ => by
    by_cases h : q = i
    · subst h; simp [hself]
    · simp [h])
  have e5 := cntF_or (f := fun q => !covK xs i xs.length q) (g := covK xs i xs.length) (h := fun _ => true) v (fun q _ => by cases covK xs i xs.length q <;> simp)
  have e6 : cntF (fun _ => true) v = v := (cntF_all v).2 fun _ _ => rfl
  rw [cntF_eq i v hi] at e4
  rw [e1, e2]
  have : (numsN (atP i) xs xs.length).length = (nums (atP i) xs).length := rfl
  omega

end Go.Proofs.Ytabgmjakkgalgaa

/- Plain laws of tables of products, of sums, and of full systems. Conditions: none. -/
namespace Go.Proofs.Ytabgmjakkgalgaa

def sumN (f : Nat → Nat) : Nat → Nat
  | 0 => 0
  | k + 1 => sumN f k + f k
theorem sumN_le {f : Nat → Nat} {B : Nat} : ∀ n, (∀ i, i < n → f i ≤ B) → sumN f n ≤ n * B := by
  intro n
  induction n with
  | zero => intro _; simp [sumN]
  | succ n ih =>
    intro h
    have h1 := ih (fun i hi => h i (by omega)); have h2 := h n (by omega)
    rw [sumN, Nat.succ_mul]; omega
theorem sumN_full {f : Nat → Nat} {B : Nat} : ∀ n, (∀ i, i < n → f i ≤ B) → (sumN f n = n * B ↔ ∀ i, i < n → f i = B) := by
  intro n
  induction n with
  | zero => intro _; simp [sumN]
  | succ n ih =>
    intro h
    have h0 := sumN_le n (fun i hi => h i (by omega) : ∀ i, i < n → f i ≤ B)
    have h1 := ih (fun i hi => h i (by omega)); have h2 := h n (by omega)
    rw [sumN, Nat.succ_mul]
    constructor
    · intro e i hi
      have h3 : f n = B := by omega
      by_cases hin : i = n
      · subst hin; exact h3
      · exact h1.1 (by omega) i (by omega)
    · intro e
      rw [h1.2 (fun i hi => e i (by omega)), e n (by omega)]
theorem sumN_congr {f g : Nat → Nat} : ∀ n, (∀ i, i < n → f i = g i) → sumN f n = sumN g n := by
  intro n
  induction n with
  | zero => intro _; rfl
  | succ n ih => intro h; rw [sumN, sumN, ih (fun i hi => h i (by omega)), h n (by omega)]
theorem sumN_add (f g : Nat → Nat) : ∀ n, sumN (fun i => f i + g i) n = sumN f n + sumN g n := by
  intro n
  induction n with
  | zero => rfl
  | succ n ih => rw [sumN, sumN, sumN, ih]; omega
theorem sumN_cnt (p : Nat → Bool) : ∀ n, sumN (fun i => if p i = true then 1 else 0) n = cntF p n := by
  intro n
  induction n with
  | zero => rfl
  | succ n ih => rw [sumN, cntF, ih]
theorem sumN_const (c : Nat) : ∀ n, sumN (fun _ => c) n = n * c := by
  intro n
  induction n with
  | zero => simp [sumN]
  | succ n ih => rw [sumN, ih, Nat.succ_mul]

/-- how many triples of n elements are such -/
def cntT (n : Nat) (p : Nat → Nat → Nat → Bool) : Nat := sumN (fun a => sumN (fun b => sumN (fun c => if p a b c = true then 1 else 0) n) n) n
theorem cntT_congr {n : Nat} {p q : Nat → Nat → Nat → Bool} (h : ∀ a b c, a < n → b < n → c < n → p a b c = q a b c) : cntT n p = cntT n q :=
  sumN_congr n fun a ha => sumN_congr n fun b hb => sumN_congr n fun c hc => by rw [h a b c ha hb hc]
theorem cntT_all {n : Nat} {p : Nat → Nat → Nat → Bool} : cntT n p = n * (n * n) ↔ ∀ a, a < n → ∀ b, b < n → ∀ c, c < n → p a b c = true := by
  have h1 : ∀ a b c, (if p a b c = true then 1 else 0) ≤ 1 := by intro a b c; split <;> omega
  have h2 : ∀ a b, sumN (fun c => if p a b c = true then 1 else 0) n ≤ n := by
    intro a b; have := sumN_le (f := fun c => if p a b c = true then 1 else 0) (B := 1) n (fun c _ => h1 a b c); omega
  have h3 : ∀ a, sumN (fun b => sumN (fun c => if p a b c = true then 1 else 0) n) n ≤ n * n := fun a => sumN_le n fun b _ => h2 a b
  unfold cntT
  rw [sumN_full n fun a _ => h3 a]
  constructor
  · intro h a ha b hb c hc
    have h4 := (sumN_full n fun b _ => h2 a b).1 (h a ha) b hb
    have h5 := (sumN_full (B := 1) n fun c _ => h1 a b c).1 (by rw [Nat.mul_one]; exact h4) c hc
    by_cases e : p a b c = true
    · exact e
    · rw [if_neg e] at h5; omega
  · intro h a ha
    rw [sumN_full n fun b _ => h2 a b]
    intro b hb
    have : sumN (fun c => if p a b c = true then 1 else 0) n = n * 1 := (sumN_full (B := 1) n fun c _ => h1 a b c).2 fun c hc => by rw [if_pos (h a ha b hb c hc)]
    rw [this, Nat.mul_one]
theorem cntT_le (n : Nat) (p : Nat → Nat → Nat → Bool) : cntT n p ≤ n * (n * n) := by
  refine sumN_le n fun a _ => sumN_le n fun b _ => ?_
  have := sumN_le (f := fun c => if p a b c = true then 1 else 0) (B := 1) n (fun c _ => by show (if p a b c = true then 1 else 0) ≤ 1; split <;> omega)
  omega

theorem third_symm (xs : List Blk) (p q : Int) : third xs p q = third xs q p := by
  induction xs with
  | nil => rfl
  | cons b bs ih =>
    rw [third, third, ih, Bool.and_comm]
    split
    · omega
    · rfl

theorem deg_sum {v : Int} {xs : List Blk} (ha : areB v xs) : ∀ k, k ≤ xs.length → sumN (fun i => (numsN (atP (i : Int)) xs k).length) v.toNat = 3 * k := by
  intro k
  induction k with
  | zero => intro _; have e : sumN (fun i => (numsN (atP (i : Int)) xs 0).length) v.toNat = sumN (fun _ => 0) v.toNat := sumN_congr _ (fun i _ => rfl)
            rw [e, sumN_const]; simp
  | succ k ih =>
    intro hk
    have e : ∀ i : Nat, (numsN (atP (i : Int)) xs (k + 1)).length = (numsN (atP (i : Int)) xs k).length + (if hasB (nth xs k) i = true then 1 else 0) := by
      intro i
      rw [numsN, List.length_append]
      unfold atP
      split <;> simp
    rw [sumN_congr _ (fun i _ => e i), sumN_add, ih (by omega), sumN_cnt]
    have hg := (ha k (by omega)).1
    have hb := good_bd hg
    rw [cntF_has hg, if_pos (by omega), if_pos (by omega), if_pos (by omega)]
    omega
theorem full_cov {v : Int} {xs : List Blk} (hs : isSys v xs) (hf : fullB v xs = true) {p q : Nat} (hp : (p : Int) < v) (hq : (q : Int) < v) (hne : p ≠ q) : ∃ j, j < xs.length ∧ inB (nth xs j) p q = true := by
  obtain ⟨n, rfl⟩ := Int.eq_ofNat_of_zero_le (by have := hs.1.1; omega : 0 ≤ v)
  have hv := hs.1
  have hself : ∀ i, covK xs i xs.length i = false := by
    intro i; rw [← Bool.not_eq_true, covK_iff]; rintro ⟨j, _, h2⟩; exact (inB_iff.1 h2).1 rfl
  have hle : ∀ i, i < n → 2 * (numsN (atP (i : Int)) xs xs.length).length ≤ n - 1 := by
    intro i hi
    have h1 := cov_cnt hs (i := i) (by omega) xs.length (Nat.le_refl _)
    rw [Int.toNat_natCast] at h1
    have h2 := cntF_le (covK xs i xs.length) n
    have h3 : cntF (covK xs i xs.length) n ≠ n := by
      intro e
      have := (cntF_all n).1 e i hi
      rw [hself i] at this; cases this
    omega
  have hsum := deg_sum hs.2.2.1 xs.length (Nat.le_refl _)
  rw [Int.toNat_natCast] at hsum
  have hs2 : sumN (fun i => 2 * (numsN (atP (i : Int)) xs xs.length).length) n = n * (n - 1) := by
    have e : ∀ i, i < n → 2 * (numsN (atP (i : Int)) xs xs.length).length = (numsN (atP (i : Int)) xs xs.length).length + (numsN (atP (i : Int)) xs xs.length).length := fun i _ => by omega
    rw [sumN_congr n e, sumN_add, hsum]
    unfold fullB at hf
    rw [beq_iff_eq] at hf
    have h6 : ((n * (n - 1) : Nat) : Int) = (n : Int) * ((n : Int) - 1) := by push_cast; congr 1; omega
    rw [← h6] at hf
    omega
  have heq := (sumN_full n hle).1 hs2 p (by omega)
  have h1 := cov_cnt hs (i := p) (by omega) xs.length (Nat.le_refl _)
  rw [Int.toNat_natCast] at h1
  have hor := cntF_or (f := covK xs p xs.length) (g := fun q => decide (q = p)) (h := fun q => covK xs p xs.length q || decide (q = p)) n (fun j hj => ⟨rfl, by
    by_cases e : j = p
    · subst e; rw [hself]; rfl
    · simp [e]⟩)
  rw [cntF_eq p n (by omega)] at hor
  have hall := (cntF_all (f := fun q => covK xs p xs.length q || decide (q = p)) n).1 (by omega) q (by omega)
  simp only [Bool.or_eq_true, decide_eq_true_eq] at hall
  rcases hall with h | h
  · exact (covK_iff xs p q xs.length).1 h
  · exact absurd h.symm hne
theorem third_full {v : Int} {xs : List Blk} (hs : isSys v xs) (hf : fullB v xs = true) {p q : Nat} (hp : (p : Int) < v) (hq : (q : Int) < v) (hne : p ≠ q) : 0 ≤ third xs p q ∧ third xs p q < v ∧ third xs p q ≠ p ∧ third xs p q ≠ q := by
  obtain ⟨j, h1, h2⟩ := full_cov hs hf hp hq hne
  rcases first_of (P := fun j => bothB (nth xs j) p q) xs.length with h | ⟨i, k1, k2, k3⟩
  · have := h j h1
    have h3 := inB_iff.1 h2
    unfold bothB at this
    rw [h3.2.1, h3.2.2] at this; cases this
  · rw [third_at p q xs i k1 k2 k3]
    have hin : inB (nth xs i) p q = true := by
      unfold bothB at k2; simp only [Bool.and_eq_true] at k2
      exact inB_iff.2 ⟨by omega, k2.1, k2.2⟩
    have h4 := in_third (hs.2.2.1 i k1).1 hin
    obtain ⟨a1, a2, a3⟩ := inB_iff.1 hin
    have hg := good_bd (hs.2.2.1 i k1).1
    refine ⟨h4.1, h4.2.1, ?_, ?_⟩
    · unfold sumB; rcases has_iff.1 a2 with e | e | e <;> rcases has_iff.1 a3 with e' | e' | e' <;> omega
    · unfold sumB; rcases has_iff.1 a2 with e | e | e <;> rcases has_iff.1 a3 with e' | e' | e' <;> omega

/-- the product of two elements of the loop -/
def loopI (xs : List Blk) (v a b : Int) : Int := if a = v then b else if b = v then a else if a = b then v else third xs a b
theorem prod_bd {v : Int} {xs : List Blk} (hs : isSys v xs) (hf : fullB v xs = true) {a b : Nat} (ha : (a : Int) < v) (hb : (b : Int) < v) : 0 ≤ prodI xs a b ∧ prodI xs a b < v := by
  unfold prodI
  split
  · omega
  · have := third_full hs hf ha hb (by omega); exact ⟨this.1, this.2.1⟩
theorem loop_bd {v : Int} {xs : List Blk} (hs : isSys v xs) (hf : fullB v xs = true) {a b : Nat} (ha : (a : Int) < v + 1) (hb : (b : Int) < v + 1) : 0 ≤ loopI xs v a b ∧ loopI xs v a b < v + 1 := by
  have hv := hs.1
  unfold loopI
  split
  · omega
  · split
    · omega
    · split
      · omega
      · have := third_full hs hf (p := a) (q := b) (by omega) (by omega) (by omega); omega
theorem prod_symm (xs : List Blk) (a b : Int) : prodI xs a b = prodI xs b a := by
  unfold prodI
  by_cases h : a = b
  · subst h; rfl
  · rw [if_neg h, if_neg (Ne.symm h), third_symm]
/-- the row of a of a table -/
def tabR (op : Int → Int → Int) (n : Nat) (a : Nat) : List Int := (List.range n).map fun b : Nat => op (a : Int) (b : Int)
theorem tabR_len (op : Int → Int → Int) (n a : Nat) : (tabR op n a).length = n := by simp [tabR]
theorem tabR_nth (op : Int → Int → Int) {n a b : Nat} (hb : b < n) : nthI (tabR op n a) b = op a b := by simp [tabR, nthI, hb]
theorem tabR_succ (op : Int → Int → Int) (n a : Nat) : tabR op (n + 1) a = tabR op n a ++ [op a n] := by simp [tabR, List.range_succ]
def tab (op : Int → Int → Int) (n : Nat) : List (List Int) := (List.range n).map (tabR op n)
theorem tab_len (op : Int → Int → Int) (n : Nat) : (tab op n).length = n := by simp [tab]

/-- is a table distributive -/
noncomputable def disB (op : Int → Int → Int) (n : Nat) : Bool := open Classical in decide (∀ a b c : Nat, a < n → b < n → c < b → op a (op b c) = op (op a b) (op a c))
theorem disB_true {op : Int → Int → Int} {n : Nat} (h : ∀ a b c : Nat, a < n → b < n → c < b → op a (op b c) = op (op a b) (op a c)) : disB op n = true := by unfold disB; simpa using h
theorem disB_false {op : Int → Int → Int} {n : Nat} (h : ¬ ∀ a b c : Nat, a < n → b < n → c < b → op a (op b c) = op (op a b) (op a c)) : disB op n = false := by unfold disB; simpa using h
theorem disB_cnt {op : Int → Int → Int} {n : Nat} (hsym : ∀ a b, op a b = op b a) (hid : ∀ a, op a a = a) :
    (cntT n (fun a b c => op a (op b c) == op (op a b) (op a c)) == n * (n * n)) = disB op n := by
  rw [Bool.eq_iff_iff, beq_iff_eq, cntT_all]
  unfold disB
  simp only [decide_eq_true_eq, beq_iff_eq]
  constructor
  · intro h a b c ha hb hc; exact h a ha b hb c (by omega)
  · intro h a ha b hb c hc
    rcases Nat.lt_trichotomy c b with hlt | rfl | hgt
    · exact h a b c ha hb hlt
    · rw [hid, hid]
    · rw [hsym b c, hsym (op a b) (op a c)]; exact h a c b ha hc hgt

end Go.Proofs.Ytabgmjakkgalgaa

/- Lists of lists in memory whose lists are rows of their own, so that each can be written and appended to; conditions: none. -/
namespace Go.Proofs.Ytabgmjakkgalgaa
open Go.RowKit
set_option linter.unusedSimpArgs false
set_option linter.unusedVariables false

def updA {α : Type} (f : Nat → α) (k : Nat) (x : α) : Nat → α := fun i => if i = k then x else f i
theorem updA_same {α : Type} (f : Nat → α) (k : Nat) (x : α) : updA f k x k = x := by simp [updA]
theorem updA_ne {α : Type} (f : Nat → α) {k j : Nat} (x : α) (h : j ≠ k) : updA f k x j = f j := by simp [updA, h]
/-- a row of numbers of its own -/
def Ro (w : World) (base : Nat) (h : Value) (xs : List Int) : Prop := w.ownsRow base 2 1 h xs.length (xs.map (Value.int .i64))
theorem Ro.below {w w' : World} {base : Nat} {h : Value} {xs : List Int} (hR : Ro w base h xs) (hb : Below w.heap.size w w') : Ro w' base h xs := own_below hR hb
/-- n rows of their own, all in different blocks, and none in the block of u -/
def Fam (w : World) (base : Nat) (u : Value) (hs : Nat → Value) (xs : Nat → List Int) (n : Nat) : Prop :=
  (∀ k, k < n → Ro w base (hs k) (xs k)) ∧ (∀ k, k < n → ∀ b, (hs k).ownBlock = some b → u.ownBlock ≠ some b) ∧ (∀ j k, j < n → k < n → j ≠ k → ∀ b, (hs j).ownBlock = some b → (hs k).ownBlock ≠ some b)
/-- u is a row of its own of the first m headers -/
def Hd (w : World) (base : Nat) (u : Value) (hs : Nat → Value) (m : Nat) : Prop := w.ownsRow base 36 1 u m ((List.range m).map hs)
def LLh (w : World) (base : Nat) (u : Value) (hs : Nat → Value) (xs : Nat → List Int) (m n : Nat) : Prop := Hd w base u hs m ∧ Fam w base u hs xs n
theorem LLh.below {w w' : World} {base : Nat} {u : Value} {hs : Nat → Value} {xs : Nat → List Int} {m n : Nat} (h : LLh w base u hs xs m n) (hb : Below w.heap.size w w') : LLh w' base u hs xs m n :=
  ⟨own_below h.1 hb, fun k hk => (h.2.1 k hk).below hb, h.2.2.1, h.2.2.2⟩
theorem LLh.base {w : World} {base base' : Nat} {u : Value} {hs : Nat → Value} {xs : Nat → List Int} {m n : Nat} (h : LLh w base u hs xs m n) (hb : base' ≤ base) : LLh w base' u hs xs m n :=
  ⟨own_base h.1 hb, fun k hk => own_base (h.2.1 k hk) hb, h.2.2.1, h.2.2.2⟩
/-- a row made since W is one more -/
theorem LLh.more {W w : World} {base : Nat} {u h : Value} {hs : Nat → Value} {xs : Nat → List Int} {m n : Nat} {row : List Int} (hL : LLh W base u hs xs m n) (hb : Below W.heap.size W w) (hmn : m ≤ n) (hB : base ≤ W.heap.size) (hR : Ro w W.heap.size h row) :
    LLh w base u (updA hs n h) (updA xs n row) m (n + 1) := by
  have hL' := hL.below hb
  have fresh : ∀ b, h.ownBlock = some b → W.heap.size ≤ b := fun b e => (hR.lt b e).1
  have old : ∀ k, k < n → ∀ b, (hs k).ownBlock = some b → b < W.heap.size := fun k hk b e => ((hL.2.1 k hk).lt b e).2
  have oldu : ∀ b, u.ownBlock = some b → b < W.heap.size := fun b e => (hL.1.lt b e).2
  refine ⟨?_, ?_, ?_, ?_⟩
  · have : (List.range m).map (updA hs n h) = (List.range m).map hs := List.map_congr_left fun i hi => updA_ne hs h (by have := List.mem_range.1 hi; omega)
    unfold Hd; rw [this]; exact hL'.1
  · intro k hk
    by_cases e : k = n
    · subst e; rw [updA_same, updA_same]; exact own_base hR hB
    · rw [updA_ne _ _ e, updA_ne _ _ e]; exact hL'.2.1 k (by omega)
  · intro k hk b hb2
    by_cases e : k = n
    · subst e; rw [updA_same] at hb2; intro e2; have := fresh b hb2; have := oldu b e2; omega
    · rw [updA_ne _ _ e] at hb2; exact hL'.2.2.1 k (by omega) b hb2
  · intro j k hj hk hne b hb2
    by_cases e : j = n
    · subst e
      rw [updA_same] at hb2
      rw [updA_ne _ _ (Ne.symm hne)]
      intro e2; have := fresh b hb2; have := old k (by omega) b e2; omega
    · rw [updA_ne _ _ e] at hb2
      by_cases e3 : k = n
      · subst e3; rw [updA_same]; intro e2; have := fresh b e2; have := old j (by omega) b hb2; omega
      · rw [updA_ne _ _ e3]; exact hL'.2.2.2 j k (by omega) (by omega) hne b hb2
/-- a row was written or appended to, its header is not in u (yet) -/
theorem LLh.grow {w w' : World} {base : Nat} {u h' : Value} {hs : Nat → Value} {xs : Nat → List Int} {m n k : Nat} {row : List Int} (hL : LLh w base u hs xs m n) (hk : k < n) (hg : w.grownBy w' (hs k).ownBlock) (hR : Ro w' base h' row)
    (hat : h'.ownBlock = (hs k).ownBlock ∨ ∃ b, h'.ownBlock = some b ∧ w.heap.size ≤ b) :
    Hd w' base u hs m ∧ Fam w' base u (updA hs k h') (updA xs k row) n := by
  have old : ∀ j, j < n → ∀ b, (hs j).ownBlock = some b → b < w.heap.size := fun j hj b e => ((hL.2.1 j hj).lt b e).2
  have oldu : ∀ b, u.ownBlock = some b → b < w.heap.size := fun b e => (hL.1.lt b e).2
  have nu : ∀ b, h'.ownBlock = some b → u.ownBlock ≠ some b := by
    intro b hb e
    rcases hat with h | ⟨c, h, hc⟩
    · exact hL.2.2.1 k hk b (h ▸ hb) e
    · rw [h] at hb; simp only [Option.some.injEq] at hb; subst hb; have := oldu _ e; omega
  have nh : ∀ j, j < n → j ≠ k → ∀ b, h'.ownBlock = some b → (hs j).ownBlock ≠ some b := by
    intro j hj hjk b hb e
    rcases hat with h | ⟨c, h, hc⟩
    · exact hL.2.2.2 k j hk hj (Ne.symm hjk) b (h ▸ hb) e
    · rw [h] at hb; simp only [Option.some.injEq] at hb; subst hb; have := old j hj _ e; omega
  refine ⟨World.ownsRow.kept hL.1 hg ?_, ?_, ?_, ?_⟩
  · cases e : u.ownBlock with
    | none => exact .inl rfl
    | some b => right; intro e2; exact hL.2.2.1 k hk b e2.symm e
  · intro j hj
    by_cases e : j = k
    · subst e; rw [updA_same, updA_same]; exact hR
    · rw [updA_ne _ _ e, updA_ne _ _ e]
      refine World.ownsRow.kept (hL.2.1 j hj) hg ?_
      cases e2 : (hs j).ownBlock with
      | none => exact .inl rfl
      | some b => right; intro e3; exact hL.2.2.2 j k hj hk e b e2 e3.symm
  · intro j hj b hb
    by_cases e : j = k
    · subst e; rw [updA_same] at hb; exact nu b hb
    · rw [updA_ne _ _ e] at hb; exact hL.2.2.1 j hj b hb
  · intro i j hi hj hij b hb
    by_cases e : i = k
    · subst e; rw [updA_same] at hb; rw [updA_ne _ _ (Ne.symm hij)]; exact nh j hj (Ne.symm hij) b hb
    · rw [updA_ne _ _ e] at hb
      by_cases e2 : j = k
      · subst e2; rw [updA_same]; intro e3; exact nh i hi e b e3 hb
      · rw [updA_ne _ _ e2]; exact hL.2.2.2 i j hi hj hij b hb
/-- .. and its header is none of those in u -/
theorem LLh.grow_out {w w' : World} {base : Nat} {u h' : Value} {hs : Nat → Value} {xs : Nat → List Int} {m n k : Nat} {row : List Int} (hL : LLh w base u hs xs m n) (hk : k < n) (hm : m ≤ k) (hg : w.grownBy w' (hs k).ownBlock) (hR : Ro w' base h' row)
    (hat : h'.ownBlock = (hs k).ownBlock ∨ ∃ b, h'.ownBlock = some b ∧ w.heap.size ≤ b) : LLh w' base u (updA hs k h') (updA xs k row) m n := by
  obtain ⟨h1, h2⟩ := hL.grow hk hg hR hat
  refine ⟨?_, h2⟩
  have : (List.range m).map (updA hs k h') = (List.range m).map hs := List.map_congr_left fun i hi => updA_ne hs h' (by have := List.mem_range.1 hi; omega)
  unfold Hd; rw [this]; exact h1
theorem range_set {α : Type} (f : Nat → α) (m k : Nat) (x : α) : ((List.range m).map f).set k x = (List.range m).map (updA f k x) := by
  apply List.ext_getElem?
  intro i
  by_cases hi : i < m
  · by_cases e : i = k
    · subst e; simp [updA, hi]
    · rw [List.getElem?_set_ne (Ne.symm e)]; simp [updA, hi, e]
  · simp [hi, List.getElem?_eq_none]
/-- .. and its new header is written into u -/
theorem LLh.put {w w' : World} {base gu c : Nat} {h' : Value} {hs : Nat → Value} {xs : Nat → List Int} {m n k : Nat} {row : List Int} (hL : LLh w base (.slice (some ⟨gu, 0, none⟩) m c) hs xs m n) (hk : k < m) (hmn : m ≤ n) (hg : w.grownBy w' (hs k).ownBlock) (hR : Ro w' base h' row)
    (hat : h'.ownBlock = (hs k).ownBlock ∨ ∃ b, h'.ownBlock = some b ∧ w.heap.size ≤ b) : LLh (w'.setCell ⟨gu, k, none⟩ h') base (.slice (some ⟨gu, 0, none⟩) m c) (updA hs k h') (updA xs k row) m n := by
  obtain ⟨h1, h2⟩ := hL.grow (by omega) hg hR hat
  obtain ⟨h3, h4⟩ := World.ownsRow.stored h1 k h'
  refine ⟨by unfold Hd; rw [← range_set]; exact h3, fun j hj => ?_, h2.2.1, h2.2.2⟩
  refine World.ownsRow.kept (h2.1 j hj) h4 ?_
  cases e : (updA hs k h' j).ownBlock with
  | none => exact .inl rfl
  | some b => right; intro e2; exact h2.2.1 j hj b e (by simpa [Value.ownBlock] using e2.symm)
/-- the next header was appended -/
theorem LLh.push {w w1 w2 : World} {base : Nat} {u v2 : Value} {hs : Nat → Value} {xs : Nat → List Int} {m n : Nat} (hL : LLh w base u hs xs m n) (hmn : m < n) (hb : Below w.heap.size w w1) (hg : w1.grownBy w2 u.ownBlock)
    (ho : w2.ownsRow base 36 1 v2 (m + 1) ((List.range m).map hs ++ [hs m])) (hat : v2.ownBlock = u.ownBlock ∨ v2.ownBlock = some w1.heap.size) : LLh w2 base v2 hs xs (m + 1) n := by
  have hL1 := hL.below hb
  refine ⟨by unfold Hd; rw [List.range_succ, List.map_append]; exact ho, fun k hk => ?_, fun k hk b hb2 e => ?_, hL.2.2.2⟩
  · refine World.ownsRow.kept (hL1.2.1 k hk) hg ?_
    cases e : (hs k).ownBlock with
    | none => exact .inl rfl
    | some b => right; intro e2; exact hL.2.2.1 k hk b e e2.symm
  · rcases hat with h | h
    · exact hL.2.2.1 k hk b hb2 (h ▸ e)
    · rw [h] at e; simp only [Option.some.injEq] at e; subst e
      have := ((hL.2.1 k hk).lt _ hb2).2; have := hb.size; omega
/-- a header that is read -/
theorem LLh.at_ {w : World} {base gu c : Nat} {hs : Nat → Value} {xs : Nat → List Int} {m n k : Nat} (hL : LLh w base (.slice (some ⟨gu, 0, none⟩) m c) hs xs m n) (hk : k < m) :
    w.cell? ⟨gu, k, none⟩ = some (hs k) ∧ gu < w.heap.size ∧ base ≤ gu := by
  have h := World.ownsRow.cells hL.1 (g := gu) (by simp [Value.ownBlock]) k (hs k) (by simp [hk])
  have hadd : (⟨gu, 0, none⟩ : Addr).add k = ⟨gu, k, none⟩ := by unfold Addr.add; split <;> simp_all
  rw [hadd] at h
  have := World.ownsRow.lt hL.1 gu (by simp [Value.ownBlock])
  exact ⟨h, this.2, this.1⟩
theorem LLh.frozen {w : World} {base gu c : Nat} {hs : Nat → Value} {xs : Nat → List Int} {m n : Nat} (hL : LLh w base (.slice (some ⟨gu, 0, none⟩) m c) hs xs m n) (k : Nat) : w.frozen? ⟨gu, k, none⟩ = false := World.ownsRow.frozenAt hL.1 k
theorem Ro.il {w : World} {base : Nat} {h : Value} {xs : List Int} (hR : Ro w base h xs) : ∃ B d, h = .slice B xs.length d ∧ Il w B xs ∧ (∀ b, B.map Addr.block = some b → b < w.heap.size ∧ base ≤ b ∧ h.ownBlock = some b) := by
  rcases hR.2 with ⟨rfl, h0⟩ | ⟨g, cap, cur, rfl, hg, hrow, hnc, _, hcs, htk⟩
  · have : xs = [] := List.eq_nil_of_length_eq_zero h0
    subst this
    exact ⟨none, 0, rfl, .inl rfl, fun b e => by simp at e⟩
  · refine ⟨_, _, rfl, .inr ⟨g, 0, rfl, Row.lt hrow, fun k hk => ?_⟩, fun b e => ?_⟩
    · rw [Nat.zero_add, Row.cell hrow]
      have h3 : (xs.map (Value.int .i64))[k]? = some (.int .i64 (nthI xs k)) := by simp [nthI, hk]
      rw [← htk, List.getElem?_take_of_lt (by omega), Array.getElem?_toList] at h3
      exact h3
    · simp only [Option.map_some, Option.some.injEq] at e
      subst e
      exact ⟨Row.lt hrow, hg, rfl⟩
/-- all headers are there: to read -/
theorem LLh.llr {w : World} {base : Nat} {u : Value} {hs : Nat → Value} {xs : Nat → List Int} {m : Nat} (hL : LLh w base u hs xs m m) : LLr w base u ((List.range m).map xs) := by
  have h1 := hL.1
  unfold Hd at h1
  refine ⟨(List.range m).map hs, by simpa using h1, fun k hk => ?_⟩
  have hkm : k < m := by simpa using hk
  obtain ⟨B, d, h1, h2, h3⟩ := (hL.2.1 k hkm).il
  have e : nthLL ((List.range m).map xs) k = xs k := by simp [nthLL, hkm]
  rw [e]
  refine ⟨B, d, by simp [hkm, h1], h2, fun b e => ⟨(h3 b e).1, hL.2.2.1 k hkm b (h3 b e).2.2, (h3 b e).2.1⟩⟩

theorem LLh.congr {w : World} {base : Nat} {u : Value} {hs : Nat → Value} {xs ys : Nat → List Int} {m n : Nat} (h : LLh w base u hs xs m n) (e : ∀ k, k < n → xs k = ys k) : LLh w base u hs ys m n :=
  ⟨h.1, fun k hk => e k hk ▸ h.2.1 k hk, h.2.2.1, h.2.2.2⟩
/-- block g holds the headers of m rows of m numbers each: op's table -/
def Tb (w : World) (g : Nat) (op : Int → Int → Int) (m : Nat) : Prop :=
  g < w.heap.size ∧ ∀ a : Nat, a < m → ∃ p o d, p < w.heap.size ∧ w.cell? ⟨g, a, none⟩ = some (.slice (some ⟨p, o, none⟩) m d) ∧ ∀ b : Nat, b < m → w.cell? ⟨p, o + b, none⟩ = some (.int .i64 (op a b))
theorem Tb.below {w w' : World} {g : Nat} {op : Int → Int → Int} {m : Nat} (h : Tb w g op m) (hb : Below w.heap.size w w') : Tb w' g op m := by
  refine ⟨Nat.lt_of_lt_of_le h.1 hb.size, fun a ha => ?_⟩
  obtain ⟨p, o, d, h1, h2, h3⟩ := h.2 a ha
  exact ⟨p, o, d, Nat.lt_of_lt_of_le h1 hb.size, (hb.cell (p := ⟨g, a, none⟩) h.1).trans h2, fun b hb2 => (hb.cell (p := ⟨p, o + b, none⟩) h1).trans (h3 b hb2)⟩
theorem LLh.form {w : World} {base : Nat} {u : Value} {hs : Nat → Value} {xs : Nat → List Int} {m n : Nat} (h : LLh w base u hs xs m n) (hm : 0 < m) : ∃ g c, u = .slice (some ⟨g, 0, none⟩) m c ∧ base ≤ g ∧ g < w.heap.size := by
  rcases h.1.2 with ⟨_, h0⟩ | ⟨g, cap, cur, hv, hb, hg, _⟩
  · omega
  · exact ⟨g, cap, hv, hb, Row.lt hg⟩
theorem Ro.form {w : World} {base : Nat} {u : Value} {xs : List Int} (h : Ro w base u xs) (hm : 0 < xs.length) : ∃ g c, u = .slice (some ⟨g, 0, none⟩) xs.length c ∧ base ≤ g ∧ g < w.heap.size ∧ ∀ k, k < xs.length → w.cell? ⟨g, k, none⟩ = some (.int .i64 (nthI xs k)) := by
  rcases h.2 with ⟨_, h0⟩ | ⟨g, cap, cur, hv, hb, hg, hnc, _, hcs, htk⟩
  · omega
  · refine ⟨g, cap, hv, hb, Row.lt hg, fun k hk => ?_⟩
    rw [Row.cell hg]
    have h3 : (xs.map (Value.int .i64))[k]? = some (.int .i64 (nthI xs k)) := by simp [nthI, hk]
    rw [← htk, List.getElem?_take_of_lt (by omega), Array.getElem?_toList] at h3
    exact h3
theorem LLh.tb {w : World} {base g c m : Nat} {hs : Nat → Value} {op : Int → Int → Int} (h : LLh w base (.slice (some ⟨g, 0, none⟩) m c) hs (tabR op m) m m) (hm : 0 < m) : Tb w g op m := by
  refine ⟨(World.ownsRow.lt h.1 g (by simp [Value.ownBlock])).2, fun a ha => ?_⟩
  obtain ⟨h1, _, _⟩ := h.at_ ha
  obtain ⟨p, d, h2, _, h3, h4⟩ := (h.2.1 a ha).form (by rw [tabR_len]; omega)
  rw [tabR_len] at h2 h4
  refine ⟨p, 0, d, h3, by rw [h1, h2], fun b hb => ?_⟩
  rw [Nat.zero_add, h4 b hb, tabR_nth op hb]

end Go.Proofs.Ytabgmjakkgalgaa

/- Contracts: meets, numbersOf; conditions: stated in each. -/
namespace Go.Proofs.Ytabgmjakkgalgaa
open Go.RowKit
set_option maxHeartbeats 400000
set_option linter.unusedSimpArgs false
set_option linter.unusedVariables false

theorem meets_any (a b : Blk) (w : World) :
    Calls Try.prog 66 #[.agg #[.int .i64 a.1, .int .i64 a.2.1, .int .i64 a.2.2], .agg #[.int .i64 b.1, .int .i64 b.2.1, .int .i64 b.2.2]] w fun e w' => e = .returned (.bool (meetB a b)) ∧ Below w.heap.size w w' := by
  have hM : Hid (meetB a b = (hasB b a.1 || hasB b a.2.1 || hasB b a.2.2)) := rfl
  generalize meetB a b = M at *
  cases h0 : hasB b a.1
  · cases h1 : hasB b a.2.1
    · skip
      go_enter Try.func66, Try.ntmps66
      obtain ⟨hA0, hB0, hW0⟩ := Box.two w a b 80
      have HA0 := Lib.hid hA0; have HB0 := Lib.hid hB0; have HW0 := Lib.hid hW0; clear hA0 hB0 hW0
      go_wp2_with fail
      refine (has_any b _ _).mono ?_
      rintro e w1 ⟨rfl, hb⟩
      have HA1 := Lib.hid (HA0.out.below hb); have HB1 := Lib.hid (HB0.out.below hb)
      have HW1 : Hid (Below w.heap.size w w1) := below_up HW0.out hb
      clear hb
      obtain ⟨q0, q1, q2⟩ := HA1.out.three; obtain ⟨r0, r1, r2⟩ := HB1.out.three
      go_wp2_with fail
      clear q0 q1 q2 r0 r1 r2
      refine (has_any b _ _).mono ?_
      rintro e w2 ⟨rfl, hb⟩
      have HA2 := Lib.hid (HA1.out.below hb); have HB2 := Lib.hid (HB1.out.below hb)
      have HW2 : Hid (Below w.heap.size w w2) := below_up HW1.out hb
      clear hb
      obtain ⟨q0, q1, q2⟩ := HA2.out.three; obtain ⟨r0, r1, r2⟩ := HB2.out.three
      go_wp2_with fail
      clear q0 q1 q2 r0 r1 r2
      refine (has_any b _ _).mono ?_
      rintro e w3 ⟨rfl, hb⟩
      have HA3 := Lib.hid (HA2.out.below hb); have HB3 := Lib.hid (HB2.out.below hb)
      have HW3 : Hid (Below w.heap.size w w3) := below_up HW2.out hb
      clear hb
      obtain ⟨q0, q1, q2⟩ := HA3.out.three; obtain ⟨r0, r1, r2⟩ := HB3.out.three
      go_wp2
      go_ret
      exact ⟨ret_bool (by rw [hM.out, h0, h1]; rfl), HW3.out⟩
    · skip
      go_enter Try.func66, Try.ntmps66
      obtain ⟨hA0, hB0, hW0⟩ := Box.two w a b 80
      have HA0 := Lib.hid hA0; have HB0 := Lib.hid hB0; have HW0 := Lib.hid hW0; clear hA0 hB0 hW0
      go_wp2_with fail
      refine (has_any b _ _).mono ?_
      rintro e w1 ⟨rfl, hb⟩
      have HA1 := Lib.hid (HA0.out.below hb); have HB1 := Lib.hid (HB0.out.below hb)
      have HW1 : Hid (Below w.heap.size w w1) := below_up HW0.out hb
      clear hb
      obtain ⟨q0, q1, q2⟩ := HA1.out.three; obtain ⟨r0, r1, r2⟩ := HB1.out.three
      go_wp2_with fail
      clear q0 q1 q2 r0 r1 r2
      refine (has_any b _ _).mono ?_
      rintro e w2 ⟨rfl, hb⟩
      have HA2 := Lib.hid (HA1.out.below hb); have HB2 := Lib.hid (HB1.out.below hb)
      have HW2 : Hid (Below w.heap.size w w2) := below_up HW1.out hb
      clear hb
      obtain ⟨q0, q1, q2⟩ := HA2.out.three; obtain ⟨r0, r1, r2⟩ := HB2.out.three
      go_wp2
      go_ret
      exact ⟨ret_bool (by rw [hM.out, h0, h1]; rfl), HW2.out⟩
  · skip
    go_enter Try.func66, Try.ntmps66
    obtain ⟨hA0, hB0, hW0⟩ := Box.two w a b 80
    have HA0 := Lib.hid hA0; have HB0 := Lib.hid hB0; have HW0 := Lib.hid hW0; clear hA0 hB0 hW0
    go_wp2_with fail
    refine (has_any b _ _).mono ?_
    rintro e w1 ⟨rfl, hb⟩
    have HA1 := Lib.hid (HA0.out.below hb); have HB1 := Lib.hid (HB0.out.below hb)
    have HW1 : Hid (Below w.heap.size w w1) := below_up HW0.out hb
    clear hb
    obtain ⟨q0, q1, q2⟩ := HA1.out.three; obtain ⟨r0, r1, r2⟩ := HB1.out.three
    go_wp2
    go_ret
    exact ⟨ret_bool (by rw [hM.out, h0]; rfl), HW1.out⟩

theorem infoInt' : (Try.prog.info? 2).map (fun i => (i.zero, i.size, i.bytes)) = some (some (.int .i64 0), 1, 8) := by kernel_rfl

end Go.Proofs.Ytabgmjakkgalgaa

/- Contracts of tables of products; conditions: stated in each. -/
namespace Go.Proofs.Ytabgmjakkgalgaa
open Go.RowKit
set_option maxHeartbeats 400000
set_option maxRecDepth 100000
set_option linter.unusedSimpArgs false
set_option linter.unusedVariables false

theorem infoList' : (Try.prog.info? 36).map (fun i => (i.zero, i.size, i.bytes)) = some (some (.slice none 0 0), 1, 24) := by kernel_rfl

theorem l09Table_any (n : Nat) (A : Option Addr) (c : Nat) (xs : List Blk) (w : World) (hA : Bl w A xs) (hl : xs.length ≤ 1048576) (hs : isSys n xs) :
    Calls Try.prog 42 #[.agg #[.int .i64 n, .slice A xs.length c]] w fun e w' => ∃ u hs, e = .returned u ∧ LLh w' w.heap.size u hs (tabR (prodI xs) n) n n ∧ Below w.heap.size w w' := by
  obtain ⟨ni0, hni, hni0, hni1, hni2⟩ := info_parts infoInt'
  obtain ⟨li0, hli, hli0, hli1, hli2⟩ := info_parts infoList'
  have hn := hs.1
  have HS := Lib.hid hs
  have HA := Lib.hid (hA.below (below_alloc w (.cells #[.int .i64 n, .slice A xs.length c] 30)))
  have HR := Lib.hid (Row.box w 30 (.int .i64 n) (.slice A xs.length c))
  have HW := Lib.hid (below_alloc w (.cells #[.int .i64 n, .slice A xs.length c] 30))
  have HSZ : Hid ((w.alloc (.cells #[.int .i64 n, .slice A xs.length c] 30)).heap.size = w.heap.size + 1) := World.size_alloc _ _
  clear hA hs
  go_enter Try.func42, Try.ntmps42
  go_wp2
  generalize w.alloc _ = W at *
  go_loopw [3, 4] (fun u i wr => ∃ (k : Nat) (hs : Nat → Value), k ≤ n ∧ i = .int .i64 k ∧ Hid (Below W.heap.size W wr ∧ LLh wr W.heap.size u hs (tabR (prodI xs) n) k k)) (fun _ i _ => n - (intOf i).toNat)
  case atStart =>
    refine ⟨0, fun _ => .slice none 0 0, by omega, rfl, below_alloc _ _, ?_, fun k hk => by omega, fun k hk => by omega, fun j k hj => by omega⟩
    unfold Hd; rw [← HSZ.out]; exact own_empty _ _ _
  case round =>
    obtain ⟨k, hs, hk, rfl, HC⟩ := hrel
    obtain ⟨c0, c1⟩ := (HR.out.below HC.out.1).c2
    have hsz := (HR.out.below HC.out.1).lt
    by_cases hlt : k < n
    · go_wp2
      obtain ⟨wo, rfl⟩ : ∃ wo : World, wo = wr := ⟨_, rfl⟩
      have HRO : Hid (Ro (wo.alloc (.cells #[] 2)) wo.heap.size (.slice (some ⟨wo.heap.size, 0, none⟩) 0 0) []) := own_empty _ _ _
      have HBA := Lib.hid (below_alloc wo (.cells #[] 2))
      generalize hWo : wo.alloc (.cells #[] 2) = w5 at *
      clear hWo c0 c1
      go_loopw [5, 6] (fun r i wr => ∃ j : Nat, j ≤ n ∧ i = .int .i64 j ∧ Hid (Below wo.heap.size wo wr ∧ Ro wr wo.heap.size r (tabR (prodI xs) j k))) (fun _ i _ => n - (intOf i).toNat)
      case atStart => exact ⟨0, by omega, rfl, HBA.out, HRO.out⟩
      case round =>
        obtain ⟨j, hj, rfl, HD⟩ := hrel
        have HB1 : Hid (Below W.heap.size W wr) := below_up HC.out.1 HD.out.1
        obtain ⟨c0, c1⟩ := (HR.out.below HB1.out).c2
        have hsz := (HR.out.below HB1.out).lt
        have hjl := tabR_len (prodI xs) j k
        have HN : Hid (tabR (prodI xs) (j + 1) k = tabR (prodI xs) j k ++ [prodI xs k j]) := tabR_succ _ _ _
        by_cases hlt2 : j < n
        · go_wp2_with fail
          refine (l09Product_any n A c xs k j _ (HA.out.below HB1.out) hl HS.out (by omega) (by omega)).mono ?_
          rintro e w1 ⟨rfl, hb⟩
          have HB2 : Hid (Below wo.heap.size wo w1) := below_up HD.out.1 hb
          have HO : Hid (w1.ownsRow wo.heap.size 2 1 u5 (tabR (prodI xs) j k).length ((tabR (prodI xs) j k).map (Value.int .i64))) := own_below HD.out.2 hb
          clear hb
          have hbw_ := HB2.out.size; go_wp2_with (at_builtin; refine wpList_append_own _ rfl _ _ 36 rfl (wo).heap.size 2 ni0 (.int .i64 0) 1 8 Try.underlying36 hni hni0 hni1 hni2 rfl (by decide) _ _ _ rfl (HO.out.alloc _) ⟨(w1).heap.size, 0, none⟩ 1 1 [.int .i64 (prodI xs k j)] rfl rfl (cells_new _ _ _) (by simp [Value.oneCell']) (by unfold maxLen; omega) (by omega) (by simp; omega) ?_; intro v2 w2 hown2 hg2 _); have HO2 := Lib.hid hown2; have HB3 : Hid (Below (wo).heap.size (wo) w2) := (HB2.out.alloc HB2.out.size _).grown hg2 (by simp; omega) (own_block HO.out); clear hown2 hg2 hbw_
          go_wp2
          go_roundw
          case rel => exact ⟨j + 1, by omega, by go_num, HB3.out, by rw [HN.out]; have h2 := HO2.out; unfold Ro; simpa using h2⟩
          case measure => simp [intOf]; omega
        · obtain rfl : j = n := by omega
          obtain ⟨B, d, hu, _⟩ := HD.out.2.il
          rw [tabR_len] at hu; subst hu
          have HLM : Hid (LLh wr W.heap.size u3 (updA hs k (.slice B j d)) (tabR (prodI xs) j) k (k + 1)) := by
            have h := LLh.more HC.out.2 HD.out.1 (Nat.le_refl _) HC.out.1.size HD.out.2
            have e : updA (tabR (prodI xs) j) k (tabR (prodI xs) j k) = tabR (prodI xs) j := by funext i; unfold updA; split <;> simp_all
            rw [e] at h; exact h
          have HOO_ : Hid (World.ownsRow (wr) (W).heap.size 36 1 (u3) (k) ((List.range (k)).map (updA hs k (.slice B j d)))) := HLM.out.1; have hbw_ := HB1.out.size; (try simp only [World.size_alloc] at hbw_); go_wp2_with (at_builtin; go_loud (refine wpList_append_own_at _ rfl _ _ 53 rfl (W).heap.size 36 li0 (.slice none 0 0) 1 24 Try.underlying53 hli hli0 hli1 hli2 rfl (by decide) _ _ _ rfl (HOO_.out.alloc _) ⟨wr.heap.size, 0, none⟩ 1 1 [.slice (B) (j) (d)] rfl rfl (cells_newH (cw := wr) (by simp)) (by simp [Value.oneCell']) (by unfold maxLen; omega) (by omega) (by simp; omega) ?_); intro v2 w2 hown2 hg2 _ hat2); have HL2 : Hid (LLh w2 (W).heap.size v2 (updA hs k (.slice B j d)) (tabR (prodI xs) j) (k + 1) (k + 1)) := LLh.push HLM.out (by omega) (below_alloc _ _) hg2 (by simpa [updA_same] using hown2) hat2; have HB3 : Hid (Below (W).heap.size (W) w2) := (HB1.out.alloc HB1.out.size _).grown hg2 (by simp; omega) (own_block HOO_.out); clear hown2 hg2 hat2 hbw_
          go_wp2
          go_roundw
          case rel => exact ⟨k + 1, _, by omega, by go_num, HB3.out, HL2.out⟩
          case measure => simp [intOf]; omega
    · obtain rfl : k = n := by omega
      go_wp2
      go_ret
      exact ⟨u3, hs, rfl, HC.out.2.base HW.out.size, below_up HW.out HC.out.1⟩

theorem Ro.cells {w : World} {base g : Nat} {c : Nat} {xs : List Int} (h : Ro w base (.slice (some ⟨g, 0, none⟩) xs.length c) xs) : ∀ j u, (xs.map (Value.int .i64))[j]? = some u → w.cell? ((⟨g, 0, none⟩ : Addr).add j) = some u := World.ownsRow.cells h (by simp [Value.ownBlock])
theorem l01Own_any (u : Value) (base : Nat) (ns : List Int) (w : World) (hR : Ro w base u ns) (hl : ns.length ≤ 1048576) :
    Calls Try.prog 59 #[u] w fun e w' => ∃ r, e = .returned r ∧ Ro w' w.heap.size r ns ∧ Below w.heap.size w w' := by
  obtain ⟨ni0, hni, hni0, hni1, hni2⟩ := info_parts infoInt'
  have HE : Hid (Ro (w.alloc (.cells #[] 2)) w.heap.size (.slice (some ⟨w.heap.size, 0, none⟩) 0 0) []) := own_empty _ _ _
  have HB := Lib.hid (below_alloc w (.cells #[] 2))
  have HR := Lib.hid hR
  rcases hR.2 with ⟨rfl, h0⟩ | ⟨g, cap, cur, rfl, _⟩
  · obtain rfl := List.eq_nil_of_length_eq_zero h0
    clear hR
    go_enter Try.func59, Try.ntmps59
    go_wp2_with (at_builtin; refine wpList_append_own_none rfl _ _ 36 rfl w.heap.size 2 ni0 1 (by rfl) hni _ 0 [] rfl HE.out rfl ?_)
    go_ret
    exact ⟨_, rfl, HE.out, HB.out⟩
  · clear hR
    have HRC := Lib.hid (HR.out.below HB.out)
    go_enter Try.func59, Try.ntmps59
    go_wp2_with (at_builtin; refine wpList_append_own _ rfl _ _ 36 rfl w.heap.size 2 ni0 (.int .i64 0) 1 8 Try.underlying36 hni hni0 hni1 hni2 rfl (by decide) _ _ _ rfl HE.out ⟨g, 0, none⟩ ns.length cap (ns.map (Value.int .i64)) rfl (by simp) (Ro.cells HRC.out) (by simp [Value.oneCell']) (by unfold maxLen; simp; omega) (by simp; omega) (by simp) ?_; intro v2 w2 hown2 hg2 _)
    have HO : Hid (Ro w2 w.heap.size v2 ns) := by unfold Hid Ro; simpa using hown2
    have HB2 : Hid (Below w.heap.size w w2) := HB.out.grown hg2 HB.out.size (own_block HE.out)
    clear hown2 hg2
    go_ret
    exact ⟨_, rfl, HO.out, HB2.out⟩

end Go.Proofs.Ytabgmjakkgalgaa

/- Contracts for AreDisjoint and IsClass, of the reference and of the program; conditions: stated in each. -/
namespace Go.Proofs.Ytabgmjakkgalgaa
open Go.RowKit
set_option maxHeartbeats 400000
set_option linter.unusedSimpArgs false
set_option linter.unusedVariables false

/-- the code of a system and of a set of blocks -/
noncomputable def setCode (v : Int) (xs : List Blk) (ls : List Int) : Int := if isSysB v xs = true then (if risesB ls xs.length = true then 0 else 2) else 1
theorem setCode_zero {v : Int} {xs : List Blk} {ls : List Int} (h : setCode v xs ls = 0) : isSysB v xs = true ∧ risesB ls xs.length = true := by
  unfold setCode at h; (repeat' split at h) <;> simp_all

theorem l05Bits_any (b : Blk) (w : World) (hg : goodB 15 b = true) :
    Calls Try.prog 57 #[.agg #[.int .i64 b.1, .int .i64 b.2.1, .int .i64 b.2.2]] w fun e w' => e = .returned (.int .i64 (maskB b : Nat)) ∧ Below w.heap.size w w' := by
  obtain ⟨h0, h1, h2, h3⟩ := good_bd hg
  obtain ⟨x, y, z⟩ := b
  dsimp only at *
  obtain ⟨X, rfl⟩ := Int.eq_ofNat_of_zero_le h0
  obtain ⟨Y, rfl⟩ := Int.eq_ofNat_of_zero_le (by omega : 0 ≤ y)
  obtain ⟨Z, rfl⟩ := Int.eq_ofNat_of_zero_le (by omega : 0 ≤ z)
  have hp : ∀ n : Nat, n < 15 → 2 ^ n < 32768 := fun n hn => Nat.pow_lt_pow_right (by omega) hn
  have hx := hp X (by omega); have hy := hp Y (by omega); have hz := hp Z (by omega)
  have HM : Hid ((maskB ((X : Int), (Y : Int), (Z : Int)) : Nat) = 2 ^ X + 2 ^ Y + 2 ^ Z) := rfl
  generalize maskB _ = M at *
  have HX := Lib.hid hx; have HY := Lib.hid hy; have HZ := Lib.hid hz
  clear hp hx hy hz hg
  go_enter Try.func57, Try.ntmps57
  go_wp2
  go_ret
  refine ⟨ret_int ?_, below_alloc _ _⟩
  have hx := HX.out; have hy := HY.out; have hz := HZ.out
  have ex : ∀ n : Nat, ((2 : Int) ^ n) = ((2 ^ n : Nat) : Int) := fun n => by push_cast; rfl
  rw [HM.out, ex, ex, ex]
  generalize 2 ^ X = a at *
  generalize 2 ^ Y = b at *
  generalize 2 ^ Z = c at *
  go_unwrap
  push_cast
  rfl

end Go.Proofs.Ytabgmjakkgalgaa

/- Plain laws of the sets of disjoint blocks, in order, and of their number. Conditions: none. -/
namespace Go.Proofs.Ytabgmjakkgalgaa

/-- what the rounds from 'from' to below m give, one after another -/
def loopL (f : Nat → List (List Int)) (p : Nat → Bool) (from_ : Nat) : Nat → List (List Int)
  | 0 => []
  | i + 1 => loopL f p from_ i ++ (if from_ ≤ i ∧ p i = true then f i else [])
def loopS (f : Nat → Nat) (p : Nat → Bool) (from_ : Nat) : Nat → Nat
  | 0 => 0
  | i + 1 => loopS f p from_ i + (if from_ ≤ i ∧ p i = true then f i else 0)
theorem loopL_nil (f : Nat → List (List Int)) (p : Nat → Bool) (a : Nat) : ∀ m, m ≤ a → loopL f p a m = [] := by
  intro m
  induction m with
  | zero => intro _; rfl
  | succ m ih => intro h; rw [loopL, ih (by omega), if_neg (by omega)]; rfl
theorem loopS_nil (f : Nat → Nat) (p : Nat → Bool) (a : Nat) : ∀ m, m ≤ a → loopS f p a m = 0 := by
  intro m
  induction m with
  | zero => intro _; rfl
  | succ m ih => intro h; rw [loopS, ih (by omega), if_neg (by omega)]
/-- whether a block meets none of some blocks -/
noncomputable def okI (xs : List Blk) (now : List Int) (i : Nat) : Bool := open Classical in decide (∀ k, k < now.length → meetB (blkAt xs now k) (nth xs i) = false)
def fromI (now : List Int) : Nat := if now.length = 0 then 0 else (nthI now (now.length - 1)).toNat + 1
/-- the sets of d more disjoint blocks, in order -/
noncomputable def disL (xs : List Blk) : Nat → List Int → List (List Int)
  | 0, now => [now]
  | d + 1, now => loopL (fun i => disL xs d (now ++ [(i : Int)])) (okI xs now) (fromI now) xs.length
/-- their number, by the points' digits -/
def cntS (xs : List Blk) : Nat → Nat → Nat → Nat
  | 0, _, _ => 1
  | d + 1, m, a => loopS (fun i => cntS xs d (m ||| maskB (nth xs i)) (i + 1)) (fun i => maskB (nth xs i) &&& m == 0) a xs.length

theorem loop_len {f : Nat → List (List Int)} {g : Nat → Nat} {p q : Nat → Bool} {a n : Nat} (h : ∀ i, a ≤ i → i < n → p i = q i ∧ (p i = true → (f i).length = g i)) : ∀ m, m ≤ n → (loopL f p a m).length = loopS g q a m := by
  intro m
  induction m with
  | zero => intro _; rfl
  | succ m ih =>
    intro hm
    rw [loopL, loopS, List.length_append, ih (by omega)]
    by_cases ha : a ≤ m
    · obtain ⟨h1, h2⟩ := h m ha (by omega)
      by_cases hp : p m = true
      · rw [if_pos ⟨ha, hp⟩, if_pos ⟨ha, h1 ▸ hp⟩, h2 hp]
      · rw [if_neg (fun h3 => hp h3.2), if_neg (fun h3 => hp (h1 ▸ h3.2))]; rfl
    · rw [if_neg (fun h3 => ha h3.1), if_neg (fun h3 => ha h3.1)]; rfl
theorem nthI_app {now : List Int} {x : Int} {k : Nat} (h : k < now.length) : nthI (now ++ [x]) k = nthI now k := by
  simp [nthI, List.getElem?_append_left h]
theorem nthI_last (now : List Int) (x : Int) : nthI (now ++ [x]) now.length = x := by simp [nthI]
theorem rises_snoc {now : List Int} {n : Nat} {i : Nat} (hr : risesI now n) (hi : i < n) (hf : fromI now ≤ i) : risesI (now ++ [(i : Int)]) n := by
  intro k hk
  rw [List.length_append, List.length_singleton] at hk
  by_cases hkl : k < now.length
  · rw [nthI_app hkl]
    refine ⟨(hr k hkl).1, fun h0 => ?_⟩
    rw [nthI_app (by omega)]
    exact (hr k hkl).2 h0
  · obtain rfl : k = now.length := by omega
    rw [nthI_last]
    refine ⟨by omega, fun h0 => ?_⟩
    rw [nthI_app (by omega)]
    have := (hr (now.length - 1) (by omega)).1
    unfold fromI at hf
    rw [if_neg (by omega)] at hf
    omega
theorem fromI_snoc (now : List Int) (i : Nat) : fromI (now ++ [(i : Int)]) = i + 1 := by
  unfold fromI
  rw [if_neg (by simp), List.length_append, List.length_singleton, Nat.add_sub_cancel, nthI_last]; simp
theorem uni_app (xs : List Blk) (now : List Int) (x : Int) : ∀ k, k ≤ now.length → uni xs (now ++ [x]) k = uni xs now k := by
  intro k
  induction k with
  | zero => intro _; rfl
  | succ k ih => intro hk; rw [uni, uni, ih (by omega), blkAt, blkAt, nthI_app (by omega)]
theorem uni_snoc (xs : List Blk) (now : List Int) (i : Nat) : uni xs (now ++ [(i : Int)]) (now ++ [(i : Int)]).length = uni xs now now.length ||| maskB (nth xs i) := by
  rw [List.length_append, List.length_singleton, uni, uni_app _ _ _ _ (Nat.le_refl _), blkAt, nthI_last]; rfl
theorem meetB_symm {v v' : Int} {a b : Blk} (ha : goodB v a = true) (hb : goodB v' b = true) : meetB a b = meetB b a := by
  rw [Bool.eq_iff_iff, meet_iff a hb, meet_iff b ha, comI_symm]
theorem ok_iff {v : Int} {xs : List Blk} (ha : areB v xs) {now : List Int} {i : Nat} (hr : risesI now xs.length) (hi : i < xs.length) (hf : fromI now ≤ i) :
    okI xs now i = (maskB (nth xs i) &&& uni xs now now.length == 0) := by
  have hr2 := rises_snoc hr hi hf
  have hlen : (now ++ [(i : Int)]).length = now.length + 1 := by simp
  have hm := uni_meet ha hr2 (k := now.length) (by omega)
  have e : blkAt xs (now ++ [(i : Int)]) now.length = nth xs i := by rw [blkAt, nthI_last]; rfl
  rw [e, uni_app _ _ _ _ (Nat.le_refl _), Nat.and_comm] at hm
  rw [Bool.eq_iff_iff, beq_iff_eq, hm]
  unfold okI
  simp only [decide_eq_true_eq]
  have key : ∀ j, j < now.length → meetB (nth xs i) (blkAt xs (now ++ [(i : Int)]) j) = meetB (blkAt xs now j) (nth xs i) := by
    intro j hj
    have : blkAt xs (now ++ [(i : Int)]) j = blkAt xs now j := by rw [blkAt, blkAt, nthI_app hj]
    rw [this]
    exact meetB_symm (ha i hi).1 (blkAt_good ha hr hj)
  constructor
  · intro h j hj; rw [key j hj]; exact h j hj
  · intro h j hj; rw [← key j hj]; exact h j hj
theorem dis_len {v : Int} {xs : List Blk} (ha : areB v xs) : ∀ d now, risesI now xs.length → (disL xs d now).length = cntS xs d (uni xs now now.length) (fromI now) := by
  intro d
  induction d with
  | zero => intro now _; rfl
  | succ d ih =>
    intro now hr
    rw [disL, cntS]
    refine loop_len (n := xs.length) (fun i h1 h2 => ⟨ok_iff ha hr h2 h1, fun _ => ?_⟩) xs.length (Nat.le_refl _)
    rw [ih _ (rises_snoc hr h2 h1), uni_snoc, fromI_snoc]
theorem loopL_bd {f : Nat → List (List Int)} {p : Nat → Bool} {a B : Nat} (h : ∀ i, (f i).length ≤ B) (m : Nat) : (loopL f p a m).length ≤ m * B := by
  induction m with
  | zero => simp [loopL]
  | succ m ih =>
    have := h m
    rw [loopL, List.length_append, Nat.succ_mul]
    split
    · omega
    · simp; omega
theorem dis_bd {xs : List Blk} (hx : xs.length ≤ 35) : ∀ d now, (disL xs d now).length ≤ 35 ^ d := by
  intro d
  induction d with
  | zero => intro now; simp [disL]
  | succ d ih =>
    intro now
    rw [disL, Nat.pow_succ, Nat.mul_comm]
    exact Nat.le_trans (loopL_bd (fun i => ih _) _) (Nat.mul_le_mul_right _ hx)

theorem loopS_bd {f : Nat → Nat} {p : Nat → Bool} {a B : Nat} (h : ∀ i, f i ≤ B) (m : Nat) : loopS f p a m ≤ m * B := by
  induction m with
  | zero => simp [loopS]
  | succ m ih =>
    have := h m
    rw [loopS, Nat.succ_mul]
    split <;> omega
theorem cnt_bd {xs : List Blk} (hx : xs.length ≤ 35) : ∀ d m a, cntS xs d m a ≤ 35 ^ d := by
  intro d
  induction d with
  | zero => intro m a; simp [cntS]
  | succ d ih =>
    intro m a
    rw [cntS, Nat.pow_succ, Nat.mul_comm]
    exact Nat.le_trans (loopS_bd (fun i => ih _ _) _) (Nat.mul_le_mul_right _ hx)

end Go.Proofs.Ytabgmjakkgalgaa

/- Contracts of the count of sets of disjoint blocks; conditions: stated in each. -/
namespace Go.Proofs.Ytabgmjakkgalgaa
open Go.RowKit
set_option maxHeartbeats 400000
set_option maxRecDepth 100000
set_option linter.unusedSimpArgs false
set_option linter.unusedVariables false

end Go.Proofs.Ytabgmjakkgalgaa

/- Contracts of copies of lists, of the search in a list with a guard, and of rows that grow; conditions: stated in each. -/
namespace Go.Proofs.Ytabgmjakkgalgaa
open Go.RowKit
set_option maxHeartbeats 400000
set_option maxRecDepth 100000
set_option linter.unusedSimpArgs false
set_option linter.unusedVariables false

@[go_sem] theorem eq_nil_slice (a : Option Addr) (l c : Nat) (w : World) : (binOp .eql 36 (.slice a l c) (.slice none 0 0)).run Try.prog w = .ok (.bool a.isNone) w := by
  have := run_equal_slice_nil (P := Try.prog) w 36 2 a l c Try.underlying36
  simp [binOp, this]
theorem clone_any (u : Value) (base : Nat) (ns : List Int) (w : World) (hR : Ro w base u ns) (hl : ns.length ≤ 1048576) :
    Calls Try.prog 63 #[u] w fun e w' => ∃ r, e = .returned r ∧ Ro w' w.heap.size r ns ∧ Below w.heap.size w w' := by
  obtain ⟨ni0, hni, hni0, hni1, hni2⟩ := info_parts infoInt'
  have HE : Hid (Ro (w.alloc (.cells #[] 2)) w.heap.size (.slice (some ⟨w.heap.size, 0, none⟩) 0 0) []) := own_empty _ _ _
  have HB := Lib.hid (below_alloc w (.cells #[] 2))
  have HR := Lib.hid hR
  rcases hR.2 with ⟨rfl, h0⟩ | ⟨g, cap, cur, rfl, _⟩
  · obtain rfl := List.eq_nil_of_length_eq_zero h0
    clear hR
    go_enter Try.func63, Try.ntmps63
    go_wp2
    go_ret
    exact ⟨_, rfl, World.ownsRow_nil _ _ _ _, Below.refl _ _⟩
  · clear hR
    have HRC := Lib.hid (HR.out.below HB.out)
    go_enter Try.func63, Try.ntmps63
    go_wp2_with (at_builtin; refine wpList_append_own _ rfl _ _ 36 rfl w.heap.size 2 ni0 (.int .i64 0) 1 8 Try.underlying36 hni hni0 hni1 hni2 rfl (by decide) _ _ _ rfl HE.out ⟨g, 0, none⟩ ns.length cap (ns.map (Value.int .i64)) rfl (by simp) (Ro.cells HRC.out) (by simp [Value.oneCell']) (by unfold maxLen; simp; omega) (by simp; omega) (by simp) ?_; intro v2 w2 hown2 hg2 _)
    have HO : Hid (Ro w2 w.heap.size v2 ns) := by unfold Hid Ro; simpa using hown2
    have HB2 : Hid (Below w.heap.size w w2) := HB.out.grown hg2 HB.out.size (own_block HE.out)
    clear hown2 hg2
    go_ret
    exact ⟨_, rfl, HO.out, HB2.out⟩

theorem indexFuncIn_any (A : Option Addr) (c : Nat) (ls : List Int) (g : Nat) (fa la : Array Value) (p : Int → Bool) (w : World) (hA : Il w A ls) (hl : ls.length ≤ 1048576)
    (eg : ∀ args w, (callFunc g args).run Try.prog w = .ok (.enter g args) w)
    (hp : ∀ (W : World) (k : Nat), k < ls.length → Below w.heap.size w W → Calls Try.prog g (fa ++ #[.int .i64 (nthI ls k)] ++ la) W fun e w' => e = .returned (.bool (p (nthI ls k))) ∧ Below W.heap.size W w') :
    Calls Try.prog 92 #[.slice A ls.length c, .func (.func g) fa la] w fun e w' => ∃ r : Int, e = .returned (.int .i64 r) ∧ decide (r ≥ 0) = anyP p ls ∧ Below w.heap.size w w' := by
  have HA := Lib.hid hA; have HP := Lib.hid hp; clear hA hp
  go_enter Try.func92, Try.ntmps92
  go_wp2
  go_loopw [8] (fun i wr => ∃ k : Nat, k ≤ ls.length ∧ i = .int .i64 k ∧ Below w.heap.size w wr ∧ Hid (∀ j, j < k → p (nthI ls j) = false)) (fun i _ => ls.length - (intOf i).toNat)
  case atStart => exact ⟨0, by omega, rfl, Below.refl _ _, fun i hi => by omega⟩
  case round =>
    obtain ⟨k, hk, rfl, hb, HC⟩ := hrel
    by_cases hlt : k < ls.length
    · obtain ⟨b1, o1, hA1, hb1, p0⟩ := (HA.out.below hb).at_ hlt
      subst hA1
      go_wp2_with fail
      refine (HP.out _ k hlt hb).mono ?_
      cases hq : p (nthI ls k)
      · rintro e w1 ⟨rfl, hb1⟩
        have HB := Lib.hid (below_up hb hb1); clear hb1
        go_wp2
        go_roundw
        case rel =>
          refine ⟨k + 1, by omega, by go_num, HB.out, fun i hi => ?_⟩
          by_cases hij : i < k
          · exact HC.out i hij
          · obtain rfl : i = k := by omega
            exact hq
        case measure => simp [intOf]; omega
      · rintro e w1 ⟨rfl, hb1⟩
        have HB := Lib.hid (below_up hb hb1); clear hb1
        go_wp2
        go_ret
        exact ⟨(k : Int), rfl, by rw [anyP_true hlt hq]; simp, HB.out⟩
    · obtain rfl : k = ls.length := by omega
      go_wp2
      go_ret
      exact ⟨-1, rfl, by rw [anyP_false HC.out]; rfl, hb⟩

theorem containsFuncIn_any (A : Option Addr) (c : Nat) (ls : List Int) (g : Nat) (fa la : Array Value) (p : Int → Bool) (w : World) (hA : Il w A ls) (hl : ls.length ≤ 1048576)
    (eg : ∀ args w, (callFunc g args).run Try.prog w = .ok (.enter g args) w)
    (hp : ∀ (W : World) (k : Nat), k < ls.length → Below w.heap.size w W → Calls Try.prog g (fa ++ #[.int .i64 (nthI ls k)] ++ la) W fun e w' => e = .returned (.bool (p (nthI ls k))) ∧ Below W.heap.size W w') :
    Calls Try.prog 64 #[.slice A ls.length c, .func (.func g) fa la] w fun e w' => e = .returned (.bool (anyP p ls)) ∧ Below w.heap.size w w' := by
  have HA := Lib.hid hA; have HP := Lib.hid hp; clear hA hp
  go_enter Try.func64, Try.ntmps64
  go_wp2_with fail
  refine (indexFuncIn_any A c ls g fa la p _ HA.out hl eg HP.out).mono ?_
  rintro e w1 ⟨r, rfl, hr, hb⟩
  have HB := Lib.hid hb; clear hb
  go_wp2
  go_ret
  exact ⟨ret_bool rfl, HB.out⟩

theorem meets_is {a b : Blk} {r : Bool} (h : meetB a b = r) (w : World) :
    Calls Try.prog 66 #[.agg #[.int .i64 a.1, .int .i64 a.2.1, .int .i64 a.2.2], .agg #[.int .i64 b.1, .int .i64 b.2.1, .int .i64 b.2.2]] w fun e w' => e = .returned (.bool r) ∧ Below w.heap.size w w' := h ▸ meets_any a b w

theorem disCl_any (v : Int) (A : Option Addr) (c : Nat) (xs : List Blk) (k : Nat) (b : Blk) (rx rb : Nat) (w : World) (hA : Bl w A xs) (hR : Row w rx 30 #[.int .i64 v, .slice A xs.length c]) (hB : Box w rb b) (hk : k < xs.length) (hl : xs.length ≤ 1048576) :
    Calls Try.prog 65 #[.int .i64 (k : Int), .pointer (some ⟨rx, 0, none⟩), .pointer (some ⟨rb, 0, none⟩)] w fun e w' => e = .returned (.bool (meetB (nth xs k) b)) ∧ Below w.heap.size w w' := by
  obtain ⟨c0, c1⟩ := hR.c2
  have hsz := hR.lt
  obtain ⟨x0, x1, x2⟩ := hB.three
  have hsb := hB.1
  obtain ⟨b1, o1, hA1, hb1, p0, p1, p2⟩ := hA.at_ hk
  subst hA1
  clear hA hR hB
  cases hm : meetB (nth xs k) b
  · go_enter Try.func65, Try.ntmps65
    go_wp2
    refine wp_region_ge_lit (by kernel_rfl) (by kernel_rfl) ?_; (repeat (go_big_quiet_step ((go_at_call 66; exact ge_call (meets_is hm _))))); refine wpQuiet_nil ?_
    rintro w1 ⟨x, rfl⟩
    go_wp2
    go_ret
    exact ⟨rfl, ge_below _ _⟩
  · go_enter Try.func65, Try.ntmps65
    go_wp2
    refine wp_region_ge_lit (by kernel_rfl) (by kernel_rfl) ?_; (repeat (go_big_quiet_step ((go_at_call 66; exact ge_call (meets_is hm _))))); refine wpQuiet_nil ?_
    rintro w1 ⟨x, rfl⟩
    go_wp2
    go_ret
    exact ⟨rfl, ge_below _ _⟩

theorem any_ok (xs : List Blk) (now : List Int) (i : Nat) : anyP (fun k => meetB (nth xs k.toNat) (nth xs i)) now = !okI xs now i := by
  by_cases h : ∀ k, k < now.length → meetB (blkAt xs now k) (nth xs i) = false
  · rw [anyP_false h]; unfold okI; simp; exact h
  · have h2 := h
    simp only [Classical.not_forall] at h
    obtain ⟨k, hk, hm⟩ := h
    rw [anyP_true hk (by simpa [blkAt] using hm)]
    unfold okI; rw [decide_eq_false h2]; rfl

theorem grown_join {W a b : World} {row row' : Option Nat} (h : W.grownBy a row) (k : a.grownBy b row') (hr : row' = row ∨ ∃ q, row' = some q ∧ W.heap.size ≤ q) : W.grownBy b row := by
  refine ⟨k.os.trans h.os, k.tape.trans h.tape, k.output.trans h.output, Nat.le_trans h.size k.size, fun i hi hne => ?_⟩
  rw [← h.block i hi hne]
  refine k.block i (Nat.lt_of_lt_of_le hi h.size) ?_
  rcases hr with rfl | ⟨q, rfl, hq⟩
  · exact hne
  · intro e; simp only [Option.some.injEq] at e; omega
theorem Bl.grown {w w' : World} {A : Option Addr} {xs : List Blk} {row : Option Nat} (h : Bl w A xs) (hg : w.grownBy w' row) (hA : ∀ b, A.map Addr.block = some b → row ≠ some b ∨ xs = []) : Bl w' A xs := by
  rcases h with rfl | ⟨b, o, rfl, hlt, hc⟩
  · exact .inl rfl
  · rcases hA b rfl with hne | rfl
    · refine .inr ⟨b, o, rfl, Nat.lt_of_lt_of_le hlt hg.size, fun k hk => ?_⟩
      have hh := hg.block b hlt (fun e => hne e.symm)
      obtain ⟨h0, h1, h2⟩ := hc k hk
      exact ⟨(World.cell?_of_block (a := ⟨b, o + k * 3, none⟩) hh).trans h0, (World.cell?_of_block (a := ⟨b, o + k * 3 + 1, none⟩) hh).trans h1, (World.cell?_of_block (a := ⟨b, o + k * 3 + 2, none⟩) hh).trans h2⟩
    · exact .inl rfl
theorem Row.grown {w w' : World} {g : Nat} {t : TypeId} {cur : Array Value} {row : Option Nat} (h : Row w g t cur) (hg : w.grownBy w' row) (hne : row ≠ some g) : Row w' g t cur := (hg.block g h.lt (fun e => hne e.symm)).trans h
theorem Ro.grown {w w' : World} {base : Nat} {u : Value} {xs : List Int} {row : Option Nat} (h : Ro w base u xs) (hg : w.grownBy w' row) (hne : ∀ b, u.ownBlock = some b → row ≠ some b) : Ro w' base u xs := by
  refine World.ownsRow.kept h hg ?_
  cases e : u.ownBlock with
  | none => exact .inl rfl
  | some b => right; intro e2; exact hne b e e2.symm

end Go.Proofs.Ytabgmjakkgalgaa

/- Contracts of blocks in order: of the program's sorted lists and of the reference's; conditions: stated in each. -/
namespace Go.Proofs.Ytabgmjakkgalgaa
open Go.RowKit
set_option maxHeartbeats 1000000
set_option maxRecDepth 100000
set_option linter.unusedSimpArgs false
set_option linter.unusedVariables false

@[go_sem] theorem eq_nil_blks (a : Option Addr) (l c : Nat) (w : World) : (binOp .eql 28 (.slice a l c) (.slice none 0 0)).run Try.prog w = .ok (.bool a.isNone) w := by
  have := run_equal_slice_nil (P := Try.prog) w 28 80 a l c Try.underlying28
  simp [binOp, this]
theorem Bl.cells {w : World} {g o : Nat} {xs : List Blk} (h : Bl w (some ⟨g, o, none⟩) xs) : ∀ j u, (cells3' xs)[j]? = some u → w.cell? ((⟨g, o, none⟩ : Addr).add j) = some u := by
  intro j u hj
  have hlt : j < xs.length * 3 := by
    rcases Nat.lt_or_ge j (xs.length * 3) with h | h
    · exact h
    · rw [List.getElem?_eq_none (by rw [cells3'_len]; exact h)] at hj; cases hj
  rw [cells3_get xs j hlt] at hj
  obtain ⟨b1, o1, hA, _, p0, p1, p2⟩ := h.at_ (k := j / 3) (by omega)
  simp only [Option.some.injEq, Addr.mk.injEq, and_true] at hA
  obtain ⟨rfl, rfl⟩ := hA
  have e : ((⟨g, o, none⟩ : Addr).add j) = ⟨g, o + j, none⟩ := by unfold Addr.add; split <;> simp_all
  rw [e, ← hj]
  have hm : j % 3 = 0 ∨ j % 3 = 1 ∨ j % 3 = 2 := by omega
  rcases hm with hm | hm | hm
  · have : o + j = o + j / 3 * 3 := by omega
    rw [this, p0, hm]; rfl
  · have : o + j = o + j / 3 * 3 + 1 := by omega
    rw [this, p1, hm]; rfl
  · have : o + j = o + j / 3 * 3 + 2 := by omega
    rw [this, p2, hm]; rfl
theorem OB.nilv (w : World) (base : Nat) : OB w base (.slice none 0 0) [] := World.ownsRow_nil _ _ _ _
theorem cells3_one {xs : List Blk} : ∀ v ∈ cells3' xs, v.oneCell' = true := by
  intro v hv
  unfold cells3' at hv
  rw [List.mem_flatMap] at hv
  obtain ⟨b, _, hb⟩ := hv
  simp at hb
  rcases hb with rfl | rfl | rfl <;> rfl

theorem cloneB_any (A : Option Addr) (c : Nat) (xs : List Blk) (w : World) (hA : Bl w A xs) (hl : xs.length ≤ 1048576) :
    Calls Try.prog 97 #[.slice A xs.length c] w fun e w' => ∃ u, e = .returned u ∧ OB w' w.heap.size u xs ∧ Below w.heap.size w w' := by
  obtain ⟨bi0, hbi, hbi0, hbi1, hbi2⟩ := info_parts infoBlk'
  have HE : Hid (OB (w.alloc (.cells #[] 80)) w.heap.size (.slice (some ⟨w.heap.size, 0, none⟩) 0 0) []) := own_empty _ _ _
  have HB := Lib.hid (below_alloc w (.cells #[] 80))
  have hc3 := cells3'_len xs
  have HAC := Lib.hid (hA.below HB.out)
  cases A with
  | none =>
    have h0 : xs = [] := by
      rcases hA with h | ⟨b, o, h, _⟩
      · exact h
      · cases h
    subst h0
    clear hA
    go_enter Try.func97, Try.ntmps97
    go_wp2
    go_ret
    exact ⟨_, rfl, OB.nilv _ _, Below.refl _ _⟩
  | some ad =>
    by_cases h0 : xs = []
    · subst h0
      clear hA
      go_enter Try.func97, Try.ntmps97
      go_wp2_with (at_builtin; refine wpList_append_own_none rfl _ _ 28 rfl w.heap.size 80 bi0 3 (by rfl) hbi _ 0 [] rfl HE.out rfl ?_)
      go_ret
      exact ⟨_, rfl, HE.out, HB.out⟩
    · have hp : 0 < xs.length := List.length_pos_iff.2 h0
      obtain ⟨g, o, hA1, hgl, _⟩ := hA.at_ hp
      simp only [Option.some.injEq] at hA1
      subst hA1
      clear hA
      go_enter Try.func97, Try.ntmps97
      go_wp2_with (at_builtin; refine wpList_append_own _ rfl _ _ 28 rfl w.heap.size 80 bi0 (.agg #[.int .i64 0, .int .i64 0, .int .i64 0]) 3 24 Try.underlying28 hbi hbi0 hbi1 hbi2 rfl (by decide) _ _ _ rfl HE.out ⟨g, o, none⟩ xs.length c (cells3' xs) rfl hc3 (Bl.cells HAC.out) cells3_one (by unfold maxLen; simp; omega) (by simp; omega) (by simp) ?_; intro v2 w2 hown2 hg2 _)
      have HO : Hid (OB w2 w.heap.size v2 xs) := by unfold Hid OB; simpa [cells3'] using hown2
      have HB2 : Hid (Below w.heap.size w w2) := HB.out.grown hg2 HB.out.size (own_block HE.out)
      clear hown2 hg2
      go_ret
      exact ⟨_, rfl, HO.out, HB2.out⟩
theorem OB.bl {w : World} {base : Nat} {A : Option Addr} {n c : Nat} {xs : List Blk} (h : OB w base (.slice A n c) xs) : Bl w A xs := by
  rcases h.2 with ⟨hv, hn⟩ | ⟨g, cap, cur, hv, hb, hg, hnc, _, hcs, htk⟩
  · exact .inl (List.eq_nil_of_length_eq_zero hn)
  · simp only [Value.slice.injEq] at hv
    obtain ⟨rfl, -, -⟩ := hv
    have key : ∀ j, j < xs.length * 3 → w.cell? ⟨g, j, none⟩ = some ((encB (nth xs (j / 3)))[j % 3]!) := by
      intro j hj
      have h3 := cells3_get xs j hj
      rw [← htk, List.getElem?_take_of_lt hj, Array.getElem?_toList] at h3
      rw [Row.cell (w := w) (t := 80) (cur := cur) hg]; exact h3
    refine .inr ⟨g, 0, rfl, Row.lt (w := w) (t := 80) (cur := cur) hg, fun k hk => ?_⟩
    simp only [Nat.zero_add]
    refine ⟨?_, ?_, ?_⟩
    · have := key (k * 3) (by omega)
      have e1 : k * 3 / 3 = k := by omega
      have e2 : k * 3 % 3 = 0 := by omega
      rw [e1, e2] at this; exact this
    · have := key (k * 3 + 1) (by omega)
      have e1 : (k * 3 + 1) / 3 = k := by omega
      have e2 : (k * 3 + 1) % 3 = 1 := by omega
      rw [e1, e2] at this; exact this
    · have := key (k * 3 + 2) (by omega)
      have e1 : (k * 3 + 2) / 3 = k := by omega
      have e2 : (k * 3 + 2) % 3 = 2 := by omega
      rw [e1, e2] at this; exact this

theorem sorted_any (A : Option Addr) (c : Nat) (xs : List Blk) (w : World) (hA : Bl w A xs) (hl : xs.length ≤ 1048576) :
    Calls Try.prog 99 #[.slice A xs.length c] w fun e w' => ∃ u, e = .returned u ∧ OB w' w.heap.size u (srtL xs) ∧ Below w.heap.size w w' := by
  have HA := Lib.hid hA; clear hA
  go_enter Try.func99, Try.ntmps99
  go_wp2_with fail
  refine (cloneB_any A c xs _ HA.out hl).mono ?_
  rintro e w1 ⟨u, rfl, hO, hb⟩
  have HO := Lib.hid hO; have HB := Lib.hid hb; clear hO hb
  go_wp2_with fail
  refine (sortFunc_any u w.heap.size xs _ HO.out hl).mono ?_
  rintro e w2 ⟨rfl, hO, hg⟩
  have HO2 := Lib.hid hO
  have HB2 : Hid (Below w.heap.size w w2) := HB.out.grown hg HB.out.size (own_block HO.out)
  clear hO hg
  go_wp2
  go_ret
  exact ⟨_, rfl, HO2.out, HB2.out⟩

/-- a system returned: its blocks a row of the call's own -/
theorem system_any (v : Int) (A : Option Addr) (c : Nat) (xs : List Blk) (w : World) (hA : Bl w A xs) (hl : xs.length ≤ 1048576) :
    Calls Try.prog 74 #[.int .i64 v, .slice A xs.length c] w fun e w' => ∃ u, e = .returned (.agg #[.int .i64 v, u]) ∧ OB w' w.heap.size u (srtL xs) ∧ Below w.heap.size w w' := by
  have HB0 := Lib.hid (below_alloc w (.cells #[.int .i64 0, .slice none 0 0] 30))
  have HR := Lib.hid (Row.new w 30 #[.int .i64 0, .slice none 0 0])
  have HA := Lib.hid (hA.below HB0.out); clear hA
  have HSZ : Hid ((w.alloc (.cells #[.int .i64 0, .slice none 0 0] 30)).heap.size = w.heap.size + 1) := World.size_alloc _ _
  go_enter Try.func74, Try.ntmps74
  go_wp2_with fail
  refine (sorted_any A c xs _ HA.out hl).mono ?_
  rintro e w1 ⟨u, rfl, hO, hb⟩
  obtain ⟨B, d, rfl⟩ := own_slice hO
  have HO := Lib.hid hO
  have HB1 := Lib.hid (HB0.out.trans (hb.mono HB0.out.size))
  have hR := HR.out.below hb
  obtain ⟨c0, c1⟩ := hR.c2
  have f0 := hR.frozen 0
  have f1 := hR.frozen 1
  have hlt := hR.lt
  have k0 : (w1.setCell ⟨w.heap.size, 0, none⟩ (.int .i64 v)).cell? ⟨w.heap.size, 0, none⟩ = some (.int .i64 v) := (hR.set 0 _).cell 0
  have k1 : ((w1.setCell ⟨w.heap.size, 0, none⟩ (.int .i64 v)).setCell ⟨w.heap.size, 1, none⟩ (.slice B (srtL xs).length d)).cell? ⟨w.heap.size, 1, none⟩ = some (.slice B (srtL xs).length d) := ((hR.set 0 _).set 1 _).cell 1
  have HOK : Hid (∀ X Y : Value, OB ((w1.setCell ⟨w.heap.size, 0, none⟩ X).setCell ⟨w.heap.size, 1, none⟩ Y) w.heap.size (.slice B (srtL xs).length d) (srtL xs)) := by
    intro X Y
    refine OB.base (base := (w.alloc (.cells #[.int .i64 0, .slice none 0 0] 30)).heap.size) ?_ (by have := HSZ.out; omega)
    refine World.ownsRow.kept hO (grown_set (grown_set (grown_refl w1 (some w.heap.size)) 0 X) 1 Y) ?_
    cases B with
    | none => exact .inl rfl
    | some ad =>
      right
      intro e
      have := (hO.lt ad.block rfl).1
      have := HSZ.out
      simp [Value.ownBlock] at e
      omega
  have HBB : Hid (∀ X Y : Value, Below w.heap.size w ((w1.setCell ⟨w.heap.size, 0, none⟩ X).setCell ⟨w.heap.size, 1, none⟩ Y)) := fun X Y => (HB1.out.setCell (Nat.le_refl _) _).setCell (Nat.le_refl _) _
  clear hO hb hR
  go_wp2
  (try simp only [Exit.inBlock, Exit.then])
  refine bodyPost_ret (by simp [results, Try.results74, go_sem, k0, k1]; try rfl) rfl ?_
  exact ⟨_, rfl, HOK.out _ _, HBB.out _ _⟩

theorem cells3_set : ∀ (xs : List Blk) (k : Nat) (b : Blk), k < xs.length → cells3' (xs.set k b) = (((cells3' xs).set (k * 3) (.int .i64 b.1)).set (k * 3 + 1) (.int .i64 b.2.1)).set (k * 3 + 2) (.int .i64 b.2.2) := by
  intro xs
  induction xs with
  | nil => intro k b h; simp at h
  | cons x xs ih =>
    intro k b h
    cases k with
    | zero => rfl
    | succ k =>
      have e : ∀ (y : Blk) (ys : List Blk), cells3' (y :: ys) = .int .i64 y.1 :: .int .i64 y.2.1 :: .int .i64 y.2.2 :: cells3' ys := fun y ys => by simp [cells3']
      rw [List.set_cons_succ, e, e, ih k b (by simpa using h)]
      have h1 : (k + 1) * 3 = k * 3 + 1 + 1 + 1 := by omega
      rw [h1]
      have h2 : k * 3 + 1 + 1 + 1 + 1 = (k * 3 + 1) + 1 + 1 + 1 := rfl
      have h3 : k * 3 + 1 + 1 + 1 + 2 = (k * 3 + 2) + 1 + 1 + 1 := rfl
      rw [h2, h3]
      rfl
theorem OB.set {w : World} {base g n c k : Nat} {xs : List Blk} (h : OB w base (.slice (some ⟨g, 0, none⟩) n c) xs) (b : Blk) (hk : k < xs.length) :
    OB (((w.setCell ⟨g, k * 3, none⟩ (.int .i64 b.1)).setCell ⟨g, k * 3 + 1, none⟩ (.int .i64 b.2.1)).setCell ⟨g, k * 3 + 2, none⟩ (.int .i64 b.2.2)) base (.slice (some ⟨g, 0, none⟩) n c) (xs.set k b) := by
  obtain ⟨A, d, e⟩ := own_slice h
  simp only [Value.slice.injEq] at e
  obtain ⟨-, rfl, -⟩ := e
  unfold OB at h ⊢
  rw [cells3_set xs k b hk, List.length_set]
  exact (World.ownsRow.stored (World.ownsRow.stored (World.ownsRow.stored h (k * 3) (.int .i64 b.1)).1 (k * 3 + 1) (.int .i64 b.2.1)).1 (k * 3 + 2) (.int .i64 b.2.2)).1
theorem OB.form {w : World} {base : Nat} {u : Value} {xs : List Blk} (h : OB w base u xs) (hm : 0 < xs.length) : ∃ g c, u = .slice (some ⟨g, 0, none⟩) xs.length c ∧ base ≤ g ∧ g < w.heap.size := by
  rcases h.2 with ⟨_, h0⟩ | ⟨g, cap, cur, hv, hb, hg, _⟩
  · omega
  · exact ⟨g, cap, hv, hb, Row.lt (w := w) (t := 80) (cur := cur) hg⟩
theorem OB.frozen {w : World} {base g n c : Nat} {xs : List Blk} (h : OB w base (.slice (some ⟨g, 0, none⟩) n c) xs) (i : Nat) : w.frozen? ⟨g, i, none⟩ = false := by
  obtain ⟨A, d, e⟩ := own_slice h
  simp only [Value.slice.injEq] at e
  obtain ⟨-, rfl, -⟩ := e
  exact World.ownsRow.frozenAt h i

theorem set_mid {A B : List Blk} {j b : Blk} : (A ++ [j] ++ B).set A.length b = A ++ [b] ++ B := by
  rw [List.append_assoc, List.set_append_right _ _ (Nat.le_refl _), Nat.sub_self]
  simp
theorem mid_len {S : List Blk} {j : Blk} {t : Nat} : (S.take t ++ [j] ++ S.drop t).length = S.length + 1 := by
  rw [List.length_append, List.length_append, List.length_take, List.length_drop, List.length_singleton]; omega
theorem mid_nth {S : List Blk} {j : Blk} {t i : Nat} (ht : t ≤ S.length) (hi : i < t) : nth (S.take t ++ [j] ++ S.drop t) i = nth S i := by
  have hl : (S.take t).length = t := by rw [List.length_take]; omega
  rw [List.append_assoc, nth_app (by omega)]
  simp [nth, List.getElem?_take, hi]
theorem mid_back {S : List Blk} {j : Blk} {t : Nat} (ht : t ≤ S.length) (h0 : 0 < t) : (S.take t ++ [j] ++ S.drop t).set t (nth S (t - 1)) = S.take (t - 1) ++ [nth S (t - 1)] ++ S.drop (t - 1) := by
  have hl : (S.take t).length = t := by rw [List.length_take]; omega
  have h1 : (S.take t ++ [j] ++ S.drop t).set t (nth S (t - 1)) = S.take t ++ [nth S (t - 1)] ++ S.drop t := by
    have := set_mid (A := S.take t) (B := S.drop t) (j := j) (b := nth S (t - 1))
    rwa [hl] at this
  rw [h1]
  have h2 : S.take t = S.take (t - 1) ++ [nth S (t - 1)] := by
    have e : t = (t - 1) + 1 := by omega
    conv => lhs; rw [e]
    rw [List.take_add_one, nth_get (by omega)]
    simp [List.getElem?_eq_getElem (show t - 1 < S.length by omega)]
  have h3 : S.drop (t - 1) = nth S (t - 1) :: S.drop t := by
    rw [List.drop_eq_getElem_cons (by omega), nth_get (by omega)]
    have e : t - 1 + 1 = t := by omega
    rw [e]
  rw [h2, h3]
  simp
theorem mid_end {S : List Blk} {j b : Blk} {t : Nat} (ht : t ≤ S.length) : (S.take t ++ [j] ++ S.drop t).set t b = S.take t ++ [b] ++ S.drop t := by
  have hl : (S.take t).length = t := by rw [List.length_take]; omega
  have := set_mid (A := S.take t) (B := S.drop t) (j := j) (b := b)
  rwa [hl] at this
theorem take_next {xs : List Blk} {k : Nat} (h : k < xs.length) : xs.take (k + 1) = xs.take k ++ [nth xs k] := by
  rw [List.take_add_one, nth_get h]; simp [List.getElem?_eq_getElem h]

theorem l01Sort_any (A : Option Addr) (c : Nat) (xs : List Blk) (w : World) (hA : Bl w A xs) (hl : xs.length ≤ 1048576) :
    Calls Try.prog 115 #[.slice A xs.length c] w fun e w' => ∃ u, e = .returned u ∧ OB w' w.heap.size u (srtL xs) ∧ Below w.heap.size w w' := by
  obtain ⟨bi0, hbi, hbi0, hbi1, hbi2⟩ := info_parts infoBlk'
  have HE : Hid (OB (w.alloc (.cells #[] 80)) w.heap.size (.slice (some ⟨w.heap.size, 0, none⟩) 0 0) (srtL (xs.take 0))) := by
    have : srtL (xs.take 0) = [] := srt_self List.Pairwise.nil
    unfold Hid; rw [this]; exact own_empty _ _ _
  have HB0 := Lib.hid (below_alloc w (.cells #[] 80))
  have HA := Lib.hid hA; clear hA
  go_enter Try.func115, Try.ntmps115
  go_wp2
  go_loopw [3, 4] (fun u i wr => ∃ k : Nat, k ≤ xs.length ∧ i = .int .i64 k ∧ Hid (Below w.heap.size w wr ∧ OB wr w.heap.size u (srtL (xs.take k)))) (fun _ i _ => xs.length - (intOf i).toNat)
  case atStart => exact ⟨0, by omega, rfl, HB0.out, HE.out⟩
  case round =>
    obtain ⟨k, hk, rfl, HC⟩ := hrel
    have HSL : Hid ((srtL (xs.take k)).length = k) := by unfold Hid; rw [srt_len, List.length_take]; omega
    have HSS := Lib.hid (srt_sorted (xs.take k))
    have HNX : Hid (k < xs.length → srtL (srtL (xs.take k) ++ [nth xs k]) = srtL (xs.take (k + 1))) := fun h => by rw [srt_app, take_next h]
    generalize hS : srtL (xs.take k) = S at *
    have HSEQ : Hid (k = xs.length → S = srtL xs) := fun h => by rw [← hS, h, List.take_length]
    clear hS
    by_cases hlt : k < xs.length
    · obtain ⟨b1, o1, hA1, hb1, p0, p1, p2⟩ := (HA.out.below HC.out.1).at_ hlt
      subst hA1
      have HSN := Lib.hid (HNX.out hlt)
      generalize hxk : nth xs k = b at *
      have HXK := Lib.hid hxk
      clear hxk
      have hsl := HSL.out
      obtain ⟨A3, c3, hu3⟩ := own_slice HC.out.2
      subst hu3
      rw [hsl]
      have HO : Hid (wr.ownsRow w.heap.size 80 3 (.slice A3 S.length c3) S.length (cells3' S)) := HC.out.2
      have HBW := Lib.hid HC.out.1
      rw [hsl] at HO
      clear hsl
      have hbw_ := HBW.out.size; go_wp2_with (at_builtin; refine wpList_append_own _ rfl _ _ 28 rfl (w).heap.size 80 bi0 (.agg #[.int .i64 0, .int .i64 0, .int .i64 0]) 3 24 Try.underlying28 hbi hbi0 hbi1 hbi2 rfl (by decide) _ _ _ rfl (HO.out.alloc _) ⟨(wr).heap.size, 0, none⟩ 1 1 [.int .i64 (b.1), .int .i64 (b.2.1), .int .i64 (b.2.2)] rfl rfl (cells_new _ _ _) (by simp [Value.oneCell']) (by unfold maxLen; omega) (by omega) (by simp; omega) ?_; intro v2 w2 hown2 hg2 _); have HO2 := Lib.hid hown2; have HB3 : Hid (Below (w).heap.size (w) w2) := (HBW.out.alloc HBW.out.size _).grown hg2 (by simp; omega) (own_block HO.out); clear hown2 hg2 hbw_
      have HRN : Hid (OB w2 w.heap.size v2 (S ++ [b])) := OB.snoc (by have := HO2.out; rw [HSL.out]; exact this)
      obtain ⟨g, c2, hv2, hge, hglt⟩ := HRN.out.form (by simp)
      have hl1 : (S ++ [b]).length = k + 1 := by rw [List.length_append, HSL.out]; rfl
      rw [hl1] at hv2
      subst hv2
      have HGE : Hid (w.heap.size ≤ g) := hge
      have HB3' : Hid (Below w.heap.size w w2) := HB3.out
      have HST0 : Hid (OB w2 w.heap.size (.slice (some ⟨g, 0, none⟩) (k + 1) c2) (S.take k ++ [b] ++ S.drop k)) := by
        have h1 : S.take k = S := List.take_of_length_le (by rw [HSL.out]; omega)
        have h2 : S.drop k = [] := List.drop_of_length_le (by rw [HSL.out]; omega)
        unfold Hid; rw [h1, h2, List.append_nil]; exact HRN.out
      clear HRN HO2 HB3 HO HC HBW hl1 p0 p1 p2
      go_loopw [5] (fun a wq => ∃ (t : Nat) (j : Blk), t ≤ k ∧ a = .int .i64 t ∧ Hid (Below w.heap.size w wq ∧ OB wq w.heap.size (.slice (some ⟨g, 0, none⟩) (k + 1) c2) (S.take t ++ [j] ++ S.drop t) ∧ ∀ i, t ≤ i → i < k → befB b (nth S i) = true)) (fun a _ => (intOf a).toNat)
      case atStart => exact ⟨k, b, by omega, rfl, HB3'.out, HST0.out, fun i h1 h2 => by omega⟩
      case round =>
        obtain ⟨t, j, ht, rfl, HD⟩ := hrel
        obtain ⟨wq, rfl⟩ : ∃ wq : World, wq = wr := ⟨_, rfl⟩
        obtain ⟨b2, o2, hA2, hb2, p0, p1, p2⟩ := (HA.out.below HD.out.1).at_ hlt
        simp only [Option.some.injEq, Addr.mk.injEq] at hA2
        obtain ⟨rfl, rfl, -⟩ := hA2
        rw [HXK.out] at p0 p1 p2
        by_cases ht0 : 0 < t
        · obtain ⟨b4, o4, hA4, hb4, r0, r1, r2⟩ := HD.out.2.1.bl.at_ (k := t - 1) (by rw [mid_len, HSL.out]; omega)
          simp only [Option.some.injEq, Addr.mk.injEq] at hA4
          obtain ⟨rfl, rfl, -⟩ := hA4
          rw [Nat.zero_add] at r0 r1 r2
          have HMN : Hid (nth (S.take t ++ [j] ++ S.drop t) (t - 1) = nth S (t - 1)) := mid_nth (by rw [HSL.out]; omega) (by omega)
          rw [HMN.out] at r0 r1 r2
          cases hbf : befB b (nth S (t - 1))
          · have HSTP : Hid (t = 0 ∨ befB b (nth S (t - 1)) = false) := .inr hbf
            go_wp2
            refine wp_region_ge_lit (by kernel_rfl) (by kernel_rfl) ?_; (repeat (go_big_quiet_step ((go_at_call 55; exact ge_call (hbf ▸ l01Before_any b (nth S (t - 1)) _))))); refine wpQuiet_nil ?_
            rintro w3 ⟨x, rfl⟩
            have HOg := Lib.hid (HD.out.2.1.below (ge_below wq x))
            have HBg := Lib.hid (below_up HD.out.1 (ge_below wq x))
            obtain ⟨b3, o3, hA3, hb3, q0, q1, q2⟩ := HOg.out.bl.at_ (k := t) (by rw [mid_len, HSL.out]; omega)
            simp only [Option.some.injEq, Addr.mk.injEq] at hA3
            obtain ⟨rfl, rfl, -⟩ := hA3
            rw [Nat.zero_add] at q0 q1 q2
            have f0 := HOg.out.frozen (t * 3)
            have f1 := HOg.out.frozen (t * 3 + 1)
            have f2 := HOg.out.frozen (t * 3 + 2)
            have HFIN : Hid (OB ((((ge wq x).setCell ⟨g, t * 3, none⟩ (.int .i64 b.1)).setCell ⟨g, t * 3 + 1, none⟩ (.int .i64 b.2.1)).setCell ⟨g, t * 3 + 2, none⟩ (.int .i64 b.2.2)) w.heap.size (.slice (some ⟨g, 0, none⟩) (k + 1) c2) (srtL (xs.take (k + 1)))) := by
              have h := HOg.out.set b (k := t) (by rw [mid_len, HSL.out]; omega)
              rw [mid_end (by rw [HSL.out]; omega), ins_srt HSS.out (by rw [HSL.out]; omega) (fun i h1 h2 => HD.out.2.2 i h1 (by rw [HSL.out] at h2; exact h2)) (HSTP.out), HSN.out] at h
              exact h
            go_wp2
            go_roundw
            case rel => exact ⟨k + 1, by omega, by go_num, ((HBg.out.setCell HGE.out _).setCell HGE.out _).setCell HGE.out _, HFIN.out⟩
            case measure => simp [intOf]; omega
          · go_wp2
            refine wp_region_ge_lit (by kernel_rfl) (by kernel_rfl) ?_; (repeat (go_big_quiet_step ((go_at_call 55; exact ge_call (hbf ▸ l01Before_any b (nth S (t - 1)) _))))); refine wpQuiet_nil ?_
            rintro w3 ⟨x, rfl⟩
            have HBF := Lib.hid hbf
            clear hbf p0 p1 p2 r0 r1 r2
            have HOg := Lib.hid (HD.out.2.1.below (ge_below wq x))
            have HBg := Lib.hid (below_up HD.out.1 (ge_below wq x))
            obtain ⟨b3, o3, hA3, hb3, q0, q1, q2⟩ := HOg.out.bl.at_ (k := t) (by rw [mid_len, HSL.out]; omega)
            simp only [Option.some.injEq, Addr.mk.injEq] at hA3
            obtain ⟨rfl, rfl, -⟩ := hA3
            obtain ⟨b5, o5, hA5, hb5, r0, r1, r2⟩ := HOg.out.bl.at_ (k := t - 1) (by rw [mid_len, HSL.out]; omega)
            simp only [Option.some.injEq, Addr.mk.injEq] at hA5
            obtain ⟨rfl, rfl, -⟩ := hA5
            rw [Nat.zero_add] at q0 q1 q2 r0 r1 r2
            rw [HMN.out] at r0 r1 r2
            have f0 := HOg.out.frozen (t * 3)
            have f1 := HOg.out.frozen (t * 3 + 1)
            have f2 := HOg.out.frozen (t * 3 + 2)
            have HFIN : Hid (OB ((((ge wq x).setCell ⟨g, t * 3, none⟩ (.int .i64 (nth S (t - 1)).1)).setCell ⟨g, t * 3 + 1, none⟩ (.int .i64 (nth S (t - 1)).2.1)).setCell ⟨g, t * 3 + 2, none⟩ (.int .i64 (nth S (t - 1)).2.2)) w.heap.size (.slice (some ⟨g, 0, none⟩) (k + 1) c2) (S.take (t - 1) ++ [nth S (t - 1)] ++ S.drop (t - 1))) := by
              have h := HOg.out.set (nth S (t - 1)) (k := t) (by rw [mid_len, HSL.out]; omega)
              rw [mid_back (by rw [HSL.out]; omega) ht0] at h
              exact h
            go_wp2
            go_roundw
            case rel =>
              refine ⟨t - 1, nth S (t - 1), by omega, by go_num, ((HBg.out.setCell HGE.out _).setCell HGE.out _).setCell HGE.out _, HFIN.out, fun i h1 h2 => ?_⟩
              by_cases e : i = t - 1
              · rw [e]; exact HBF.out
              · exact HD.out.2.2 i (by omega) h2
            case measure => simp [intOf]; omega
        · have HSTP : Hid (t = 0 ∨ befB b (nth S (t - 1)) = false) := .inl (by omega)
          go_wp2
          refine wp_region_ge_lit (by kernel_rfl) (by kernel_rfl) ?_; (repeat (go_big_quiet_step ((fail)))); refine wpQuiet_nil ?_
          rintro w3 ⟨x, rfl⟩
          have HOg := Lib.hid (HD.out.2.1.below (ge_below wq x))
          have HBg := Lib.hid (below_up HD.out.1 (ge_below wq x))
          obtain ⟨b3, o3, hA3, hb3, q0, q1, q2⟩ := HOg.out.bl.at_ (k := t) (by rw [mid_len, HSL.out]; omega)
          simp only [Option.some.injEq, Addr.mk.injEq] at hA3
          obtain ⟨rfl, rfl, -⟩ := hA3
          rw [Nat.zero_add] at q0 q1 q2
          have f0 := HOg.out.frozen (t * 3)
          have f1 := HOg.out.frozen (t * 3 + 1)
          have f2 := HOg.out.frozen (t * 3 + 2)
          have HFIN : Hid (OB ((((ge wq x).setCell ⟨g, t * 3, none⟩ (.int .i64 b.1)).setCell ⟨g, t * 3 + 1, none⟩ (.int .i64 b.2.1)).setCell ⟨g, t * 3 + 2, none⟩ (.int .i64 b.2.2)) w.heap.size (.slice (some ⟨g, 0, none⟩) (k + 1) c2) (srtL (xs.take (k + 1)))) := by
            have h := HOg.out.set b (k := t) (by rw [mid_len, HSL.out]; omega)
            rw [mid_end (by rw [HSL.out]; omega), ins_srt HSS.out (by rw [HSL.out]; omega) (fun i h1 h2 => HD.out.2.2 i h1 (by rw [HSL.out] at h2; exact h2)) (HSTP.out), HSN.out] at h
            exact h
          go_wp2
          go_roundw
          case rel => exact ⟨k + 1, by omega, by go_num, ((HBg.out.setCell HGE.out _).setCell HGE.out _).setCell HGE.out _, HFIN.out⟩
          case measure => simp [intOf]; omega
    · obtain rfl : k = xs.length := by omega
      have HSQ := Lib.hid (HSEQ.out rfl)
      clear HSEQ
      go_wp2
      go_ret
      exact ⟨_, rfl, by rw [← HSQ.out]; exact HC.out.2, HC.out.1⟩

end Go.Proofs.Ytabgmjakkgalgaa

/- The contract of the program's lists of sets of disjoint blocks; conditions: stated in it. -/
namespace Go.Proofs.Ytabgmjakkgalgaa
open Go.RowKit
set_option maxHeartbeats 1000000
set_option maxRecDepth 100000
set_option linter.unusedSimpArgs false
set_option linter.unusedVariables false

theorem Ro.slot {w w' : World} {base : Nat} {u : Value} {xs : List Int} {row : Option Nat} (h : Ro w base u xs) (hg : w.grownBy w' row) (hne : ∀ b, u.ownBlock = some b → row ≠ some b) : Ro w' base u xs := h.grown hg hne
/-- u is a row of its own of the lists' headers; each list is a row of its own too -/
def LLq (w : World) (base : Nat) (u : Value) (xss : List (List Int)) : Prop :=
  ∃ vs, w.ownsRow base 36 1 u xss.length vs ∧ ∀ k, k < xss.length → ∃ h, vs[k]? = some h ∧ Ro w base h (nthLL xss k) ∧ ∀ b, h.ownBlock = some b → u.ownBlock ≠ some b
theorem LLq.nil (w : World) (base : Nat) : LLq w base (.slice none 0 0) [] := ⟨[], World.ownsRow_nil _ _ _ _, fun k hk => by simp at hk⟩
theorem LLq.below {w w' : World} {base : Nat} {u : Value} {xss : List (List Int)} (h : LLq w base u xss) (hb : Below w.heap.size w w') : LLq w' base u xss := by
  obtain ⟨vs, ho, hi⟩ := h
  refine ⟨vs, own_below ho hb, fun k hk => ?_⟩
  obtain ⟨r, h1, h2, h3⟩ := hi k hk
  exact ⟨r, h1, h2.below hb, h3⟩
theorem LLq.own_lt {w : World} {base : Nat} {u : Value} {xss : List (List Int)} (h : LLq w base u xss) : ∀ b, u.ownBlock = some b → base ≤ b ∧ b < w.heap.size := by
  obtain ⟨vs, ho, _⟩ := h
  intro b hb
  exact ho.lt b hb
theorem LLq.slice {w : World} {base : Nat} {u : Value} {xss : List (List Int)} (h : LLq w base u xss) : ∃ A c, u = .slice A xss.length c := by
  obtain ⟨vs, ho, _⟩ := h
  exact own_slice ho
theorem LLq.snoc {w w1 w2 : World} {base : Nat} {u v2 r : Value} {xss : List (List Int)} {vs : List Value} {xs : List Int}
    (hi : ∀ k, k < xss.length → ∃ h, vs[k]? = some h ∧ Ro w base h (nthLL xss k) ∧ ∀ b, h.ownBlock = some b → u.ownBlock ≠ some b) (hv : vs.length = xss.length) (hB : Ro w base r xs) (hf : ∀ b, r.ownBlock = some b → u.ownBlock ≠ some b)
    (hb : Below w.heap.size w w1) (hg : w1.grownBy w2 u.ownBlock) (ho : w2.ownsRow base 36 1 v2 (xss.length + 1) (vs ++ [r])) (hat : v2.ownBlock = u.ownBlock ∨ v2.ownBlock = some w1.heap.size) :
    LLq w2 base v2 (xss ++ [xs]) := by
  have key : ∀ {h : Value} {ys : List Int}, Ro w base h ys → (∀ b, h.ownBlock = some b → u.ownBlock ≠ some b) → Ro w2 base h ys ∧ ∀ b, h.ownBlock = some b → v2.ownBlock ≠ some b := by
    intro h ys h1 h2
    refine ⟨(h1.below hb).grown hg h2, fun b e => ?_⟩
    rcases hat with h' | h'
    · rw [h']; exact h2 b e
    · rw [h']; intro e2
      simp only [Option.some.injEq] at e2
      have := (h1.lt b e).2; have := hb.size; omega
  refine ⟨vs ++ [r], by rw [List.length_append]; exact ho, fun k hk => ?_⟩
  rw [List.length_append, List.length_singleton] at hk
  by_cases hkl : k < xss.length
  · obtain ⟨h, h1, h2, h3⟩ := hi k hkl
    have e : nthLL (xss ++ [xs]) k = nthLL xss k := by simp [nthLL, List.getElem?_append_left hkl]
    rw [e]
    exact ⟨h, by rw [List.getElem?_append_left (by omega)]; exact h1, key h2 h3⟩
  · obtain rfl : k = xss.length := by omega
    have e : nthLL (xss ++ [xs]) xss.length = xs := by simp [nthLL]
    rw [e]
    exact ⟨r, by rw [← hv]; simp, key hB hf⟩
theorem LLq.at_ {w : World} {base : Nat} {A : Option Addr} {n c : Nat} {xss : List (List Int)} (h : LLq w base (.slice A n c) xss) {k : Nat} (hk : k < xss.length) :
    ∃ g r, A = some ⟨g, 0, none⟩ ∧ g < w.heap.size ∧ w.cell? ⟨g, k, none⟩ = some r ∧ Ro w base r (nthLL xss k) := by
  obtain ⟨vs, ho, hi⟩ := h
  obtain ⟨r, h1, h2, h3⟩ := hi k hk
  rcases ho.2 with ⟨_, hn⟩ | ⟨g, cap, cur, hv, hge, hg, hnc, _, hcs, htk⟩
  · omega
  · simp only [Value.slice.injEq] at hv
    refine ⟨g, r, hv.1, Row.lt hg, ?_, h2⟩
    rw [Row.cell hg]
    rw [← htk, List.getElem?_take_of_lt (by omega), Array.getElem?_toList] at h1
    exact h1

/-- what a call leaves: u, a row of lists; but for the row of v and for new blocks all is as it was -/
def Grew (w w' : World) (v u : Value) : Prop := w.grownBy w' v.ownBlock ∧ (u.ownBlock = v.ownBlock ∨ ∃ b, u.ownBlock = some b ∧ w.heap.size ≤ b)
theorem Grew.refl (w : World) (v : Value) : Grew w w v v := ⟨grown_refl w _, .inl rfl⟩
theorem Grew.below {w a b : World} {v u : Value} (h : Grew w a v u) (hb : Below a.heap.size a b) : Grew w b v u := ⟨grown_trans h.1 (grown_below hb _), h.2⟩
theorem Grew.join {w a b : World} {v u x : Value} (h : Grew w a v u) (k : Grew a b u x) : Grew w b v x := by
  refine ⟨grown_join h.1 k.1 h.2, ?_⟩
  rcases k.2 with e | ⟨q, e, hq⟩
  · rw [e]; exact h.2
  · exact .inr ⟨q, e, Nat.le_trans h.1.size hq⟩
theorem Grew.out {w a : World} {v u : Value} {B : Nat} (h : Grew w a v u) (hB : B ≤ w.heap.size) (hv : ∀ b, v.ownBlock = some b → B ≤ b) : Below B w a := (Below.refl B w).grown h.1 hB hv
theorem Since.ofAlloc {w a : World} {o : Obj} {v u : Value} (h : Grew (w.alloc o) a v u) : Grew w a v u := by
  refine ⟨grown_trans (grown_below (below_alloc w o) _) h.1, ?_⟩
  rcases h.2 with e | ⟨q, e, hq⟩
  · exact .inl e
  · exact .inr ⟨q, e, by have : w.heap.size ≤ (w.alloc o).heap.size := by simp
                         omega⟩

theorem disjoint_zero (v : Int) (A : Option Addr) (c : Nat) (xs : List Blk) (base : Nat) (L : List (List Int)) (now : List Int) (uo un : Value) (w : World) (hb0 : base ≤ w.heap.size) (hL : LLq w base uo L) (hN : Ro w base un now) (hsep : ∀ b, un.ownBlock = some b → uo.ownBlock ≠ some b)
    (hn : now.length ≤ 5) (hlen : L.length ≤ 1000000000) :
    Calls Try.prog 35 #[.agg #[.int .i64 v, .slice A xs.length c], uo, un, .int .i64 now.length] w fun e w' => ∃ u, e = .returned u ∧ LLq w' base u (L ++ [now]) ∧ Grew w w' uo u := by
  obtain ⟨li0, hli, hli0, hli1, hli2⟩ := info_parts infoList'
  obtain ⟨An, cn, hun⟩ := own_slice hN
  subst hun
  have HB := Lib.hid (below_alloc w (.cells #[.int .i64 v, .slice A xs.length c] 30))
  have HN := Lib.hid (hN.below HB.out)
  have HL := Lib.hid (hL.below HB.out)
  have HSZ : Hid ((w.alloc (.cells #[.int .i64 v, .slice A xs.length c] 30)).heap.size = w.heap.size + 1) := World.size_alloc _ _
  clear hN hL
  go_enter Try.func35, Try.ntmps35
  go_wp2_with fail
  refine (clone_any _ base now _ HN.out (by omega)).mono ?_
  rintro e w1 ⟨r, rfl, hr, hb⟩
  have HB1 := Lib.hid (HB.out.trans (hb.mono HB.out.size))
  have HLL := Lib.hid (HL.out.below hb)
  obtain ⟨B, d, rfl⟩ := own_slice hr
  have HI : Hid (Ro w1 base (.slice B now.length d) now) := own_base hr (by have := HSZ.out; omega)
  have HF : Hid (∀ b, (Value.slice B now.length d).ownBlock = some b → uo.ownBlock ≠ some b) := by
    intro b e e2
    have := (hr.lt b e).1
    have := (HL.out.own_lt b e2).2
    omega
  have hs1 := HB1.out.size
  clear hr hb
  obtain ⟨vs_, ho_, hi_⟩ := HLL.out
  have hvl_ : vs_.length = L.length := by simpa using ho_.1
  have HOO := Lib.hid ho_; have HII := Lib.hid hi_
  clear ho_ hi_
  go_wp2_with (at_builtin; go_loud (refine wpList_append_own_at _ rfl _ _ 53 rfl base 36 li0 (.slice none 0 0) 1 24 Try.underlying53 hli hli0 hli1 hli2 rfl (by decide) _ _ vs_ rfl (HOO.out.alloc _) ⟨w1.heap.size, 0, none⟩ 1 1 [.slice B now.length d] rfl rfl (cells_newH (cw := w1) (by simp)) (by simp [Value.oneCell']) (by unfold maxLen; omega) (by omega) (by simp; omega) ?_); intro v2 w2 hown2 hg2 _ hat2)
  have HL2 := Lib.hid (LLq.snoc HII.out hvl_ HI.out HF.out (below_alloc _ _) hg2 hown2 hat2)
  have HG : Hid (Grew w w2 uo v2) := by
    refine ⟨grown_trans (grown_below HB1.out _) (grown_trans (grown_below (below_alloc _ _) _) hg2), ?_⟩
    rcases hat2 with e | e
    · exact .inl e
    · exact .inr ⟨_, e, by simp; omega⟩
  clear hown2 hg2 hat2
  go_wp2
  go_ret
  exact ⟨_, rfl, HL2.out, HG.out⟩

theorem cells_old {P w8 : World} (hb : Below P.heap.size P w8) {ad : Addr} {vs : List Value} (hlt : ad.block < P.heap.size) (h : ∀ j u, vs[j]? = some u → P.cell? (ad.add j) = some u) : ∀ j u, vs[j]? = some u → w8.cell? (ad.add j) = some u := by
  intro j u hj
  have e : (ad.add j).block = ad.block := by unfold Addr.add; split <;> rfl
  exact (hb.cell (p := ad.add j) (by rw [e]; exact hlt)).trans (h j u hj)
theorem Il.of_Ro {w : World} {base : Nat} {B : Option Addr} {n d : Nat} {xs : List Int} (h : Ro w base (.slice B n d) xs) : Il w B xs := by
  obtain ⟨B', d', e, h2, _⟩ := h.il
  simp only [Value.slice.injEq] at e
  rw [e.1]; exact h2

theorem disjoint_any (v : Int) (A : Option Addr) (c : Nat) (xs : List Blk) (hs : isSys v xs) : ∀ (d K base : Nat) (L : List (List Int)) (now : List Int) (uo un : Value) (w : World), K = now.length + d → K ≤ 5 → base ≤ w.heap.size → Bl w A xs → (∀ b, A.map Addr.block = some b → b < base ∨ xs = []) →
    LLq w base uo L → Ro w base un now → risesI now xs.length → (∀ b, un.ownBlock = some b → uo.ownBlock ≠ some b) → L.length + 35 ^ d ≤ 1000000000 →
    Calls Try.prog 35 #[.agg #[.int .i64 v, .slice A xs.length c], uo, un, .int .i64 (K : Int)] w fun e w' => ∃ u, e = .returned u ∧ LLq w' base u (L ++ disL xs d now) ∧ Grew w w' uo u := by
  intro d
  induction d with
  | zero =>
    intro K base L now uo un w hK hK5 hb0 hA hAb hL hN hr hsep hlen
    obtain rfl : K = now.length := by omega
    exact disjoint_zero v A c xs base L now uo un w hb0 hL hN hsep (by omega) (by omega)
  | succ d ih =>
    intro K base L now uo un w hK hK5 hb0 hA hAb hL hN hr hsep hlen
    have HIH := Lib.hid ih; clear ih
    obtain ⟨ni0, hni, hni0, hni1, hni2⟩ := info_parts infoInt'
    have h35 := hs.2.1
    have hv15 := hs.1.2
    have HAR : Hid (areB v xs) := hs.2.2.1
    obtain ⟨An, cn, hun⟩ := own_slice hN
    subst hun
    have HB := Lib.hid (below_alloc w (.cells #[.int .i64 v, .slice A xs.length c] 30))
    have HR := Lib.hid (Row.box w 30 (.int .i64 v) (.slice A xs.length c))
    have HA := Lib.hid (hA.below HB.out)
    have HN := Lib.hid (hN.below HB.out)
    have HL := Lib.hid (hL.below HB.out)
    have HUO : Hid (∀ b, uo.ownBlock = some b → base ≤ b ∧ b < w.heap.size) := hL.own_lt
    have HSZ : Hid ((w.alloc (.cells #[.int .i64 v, .slice A xs.length c] 30)).heap.size = w.heap.size + 1) := World.size_alloc _ _
    have HAB := Lib.hid hAb; have HSEP := Lib.hid hsep; have HRI := Lib.hid hr
    have HKD := Lib.hid hK
    have hne : ((now.length : Int) == (K : Int)) = false := by rw [beq_eq_false_iff_ne]; omega
    have hn5 : now.length ≤ 4 := by omega
    have hpw : 35 ^ (d + 1) = 35 * 35 ^ d := by rw [Nat.pow_succ, Nat.mul_comm]
    rw [hpw] at hlen
    have HPW := Lib.hid hlen
    have HD : Hid (disL xs (d + 1) now = loopL (fun i => disL xs d (now ++ [(i : Int)])) (okI xs now) (fromI now) xs.length) := rfl
    have HST : Hid (∀ i, loopL (fun i => disL xs d (now ++ [(i : Int)])) (okI xs now) (fromI now) (i + 1) = loopL (fun i => disL xs d (now ++ [(i : Int)])) (okI xs now) (fromI now) i ++ (if fromI now ≤ i ∧ okI xs now i = true then disL xs d (now ++ [(i : Int)]) else [])) := fun i => rfl
    have HNIL := Lib.hid (loopL_nil (fun i => disL xs d (now ++ [(i : Int)])) (okI xs now) (fromI now) (fromI now) (Nat.le_refl _))
    have HBD := Lib.hid (fun i => loopL_bd (f := fun i => disL xs d (now ++ [(i : Int)])) (p := okI xs now) (a := fromI now) (B := 35 ^ d) (fun i => dis_bd h35 d _) i)
    clear hA hN hL hAb hsep hr hs hK hpw hlen
    have hfn : fromI now ≤ xs.length := by
      unfold fromI; split
      · omega
      · have := (HRI.out (now.length - 1) (by omega)).1; omega
    have hfrom : (now.length = 0 ∧ fromI now = 0) ∨ (∃ m F : Nat, now.length = m + 1 ∧ fromI now = F + 1 ∧ nthI now m = (F : Int)) := by
      rcases Nat.eq_zero_or_pos now.length with h | h
      · exact .inl ⟨h, by unfold fromI; rw [if_pos h]⟩
      · refine .inr ⟨now.length - 1, (nthI now (now.length - 1)).toNat, by omega, by unfold fromI; rw [if_neg (by omega)], ?_⟩
        have := (HRI.out (now.length - 1) (by omega)).1; omega
    generalize hFR : fromI now = FR at *
    have HFR := Lib.hid hFR; clear hFR
    generalize loopL (fun i => disL xs d (now ++ [(i : Int)])) (okI xs now) FR = S at *
    rcases hfrom with ⟨hm, hF⟩ | ⟨m, F, hm, hF, hlast⟩
    all_goals
      first
      | (have HIl := Lib.hid (Il.of_Ro HN.out); obtain ⟨b0, o0, hA0, hbl0, p0⟩ := HIl.out.at_ (k := m) (by omega); subst hA0; rw [hlast] at p0; have HF := Lib.hid hF; have hF35 : F + 1 ≤ xs.length := (by omega); have hne2 : ((m : Int) + 1 == (K : Int)) = false := (by rw [beq_eq_false_iff_ne]; have := HKD.out; omega); clear HIl)
      | (have HF := Lib.hid hF; have hne2 : ((0 : Int) == (K : Int)) = false := (by rw [beq_eq_false_iff_ne]; have := HKD.out; omega))
      clear hF
      go_enter Try.func35, Try.ntmps35
      go_wp2
      clear hne hne2
      generalize hWo : w.alloc _ = W5 at *
      have HM := Lib.hid hm; clear hm
      try clear p0 hbl0
      go_loopw [1, 10] (fun u i wr => ∃ k : Nat, FR ≤ k ∧ k ≤ xs.length ∧ i = .int .i64 k ∧ Hid (Grew W5 wr uo u ∧ LLq wr base u (L ++ S k))) (fun _ i _ => xs.length - (intOf i).toNat)
      case atStart => exact ⟨FR, Nat.le_refl _, hfn, by rw [HF.out]; first | rfl | go_num, Grew.refl _ _, by rw [HNIL.out, List.append_nil]; exact HL.out⟩
      case round =>
        obtain ⟨k, hk0, hk, rfl, HC⟩ := hrel
        have HUN : Hid (uo.ownBlock ≠ some w.heap.size) := fun e => by have := (HUO.out _ e).2; omega
        have HRw := Lib.hid (HR.out.grown HC.out.1.1 HUN.out)
        have HAw := Lib.hid (HA.out.grown HC.out.1.1 (fun b e => (HAB.out b e).imp (fun h e2 => by have := (HUO.out b e2).1; omega) id))
        have HNw := Lib.hid (HN.out.grown HC.out.1.1 HSEP.out)
        have hbw : base ≤ wr.heap.size := by have := HC.out.1.1.size; have := HSZ.out; omega
        have hsw : W5.heap.size ≤ wr.heap.size := HC.out.1.1.size
        have HINw := Lib.hid (Il.of_Ro HNw.out)
        obtain ⟨c0, c1⟩ := HRw.out.c2
        have hsz := HRw.out.lt
        by_cases hlt : k < xs.length
        · obtain ⟨b1, o1, hA1, hb1, p0, p1, p2⟩ := HAw.out.at_ hlt
          subst hA1
          have HX := Lib.hid (Box.new wr (nth xs k) 80)
          have HBX := Lib.hid (below_alloc wr (.cells #[.int .i64 (nth xs k).1, .int .i64 (nth xs k).2.1, .int .i64 (nth xs k).2.2] 80))
          have HSTk := Lib.hid (HST.out k)
          go_wp2_with fail
          refine (containsFuncIn_any _ cn now 65 #[] #[.pointer (some ⟨w.heap.size, 0, none⟩), .pointer (some ⟨wr.heap.size, 0, none⟩)] (fun q => meetB (nth xs q.toNat) (nth xs k)) _ (HINw.out.below HBX.out) (by omega) (fun args w => by kernel_rfl)
            (fun W j hj hb => by
              have hrj := (HRI.out j hj).1
              obtain ⟨J, hJ⟩ := Int.eq_ofNat_of_zero_le hrj.1
              rw [hJ]
              exact disCl_any v _ c xs J (nth xs k) w.heap.size wr.heap.size W ((HAw.out.below HBX.out).below hb) ((HRw.out.below HBX.out).below hb) (HX.out.below hb) (by omega) (by omega))).mono ?_
          rw [any_ok]
          cases hok : okI xs now k
          · rintro e w7 ⟨rfl, hb⟩
            have HB7 := Lib.hid (below_up HBX.out hb); clear hb c0 c1 p0 p1 p2
            go_wp2
            go_roundw
            case rel => exact ⟨k + 1, by omega, by omega, by go_num, HC.out.1.below HB7.out, by rw [HSTk.out, if_neg (fun h => by rw [hok] at h; exact absurd h.2 (by simp)), List.append_nil]; exact HC.out.2.below HB7.out⟩
            case measure => simp [intOf]; omega
          · rintro e w7 ⟨rfl, hb⟩
            have HB7 := Lib.hid (below_up HBX.out hb); clear hb c0 c1 p0 p1 p2
            have HR7 := Lib.hid (HRw.out.below HB7.out)
            obtain ⟨c0, c1⟩ := HR7.out.c2
            have hs7 := HB7.out.size
            go_wp2
            have HKEEP := Lib.hid (And.intro c0 c1)
            clear c0 c1
            have HL7 := Lib.hid (HC.out.2.below HB7.out)
            have HN7 := Lib.hid (HNw.out.below HB7.out)
            have HA7 := Lib.hid (HAw.out.below HB7.out)
            have HU1 : Hid (∀ b, u1.ownBlock = some b → base ≤ b ∧ b < w7.heap.size) := HL7.out.own_lt
            have HU2 : Hid (u1.ownBlock ≠ some w.heap.size) := by
              intro e
              rcases HC.out.1.2 with e2 | ⟨q, e2, hq⟩
              · rw [e2] at e; exact HUN.out e
              · rw [e2] at e; simp only [Option.some.injEq] at e; have := HSZ.out; omega
            have HLE : Hid ((L ++ S k).length + 35 ^ d ≤ 1000000000) := by
              have h1 := HBD.out k
              have h2 := HPW.out
              have h3 : (k + 1) * 35 ^ d ≤ 35 * 35 ^ d := Nat.mul_le_mul_right _ (by omega)
              rw [Nat.succ_mul] at h3
              unfold Hid
              rw [List.length_append]; omega
            have HRS : Hid (risesI (now ++ [(k : Int)]) xs.length) := rises_snoc HRI.out hlt (by rw [HFR.out]; exact hk0)
            go_region_held3 (fun w' => w'.cell? ⟨w.heap.size, 0, none⟩ = some (.int .i64 v) ∧ w'.cell? ⟨w.heap.size, 1, none⟩ = some (.slice (some ⟨b1, o1, none⟩) xs.length c)) (first | exact HKEEP.out | exact (HR7.out.below (HB8.out.alloc HB8.out.size _)).c2 | exact (HR7.out.below (below_alloc _ _)).c2 | exact (HR7.out.below (below_up (below_drew _) (below_alloc _ _))).c2 | exact (HR7.out.below (below_up (below_alloc _ _) (below_drew _))).c2) (first
              | (go_at_call 63
                 refine (clone_any _ base now _ (HN7.out.below (by (repeat' (first | (with_reducible exact Below.refl _ _) | (with_reducible assumption) | (with_reducible refine below_drewN ?_ _) | (with_reducible refine Below.drew ?_) | (with_reducible refine Below.alloc ?_ ?_ _) | (with_reducible refine Below.setCell ?_ ?_ _) | go_size)))) (by omega)).mono ?_
                 rintro e w8 ⟨r, rfl, hr, hb⟩
                 have HB8 : Hid (Below w7.heap.size w7 w8) := below_up (by (repeat' (first | (with_reducible exact Below.refl _ _) | (with_reducible assumption) | (with_reducible refine below_drewN ?_ _) | (with_reducible refine Below.drew ?_) | (with_reducible refine Below.alloc ?_ ?_ _) | (with_reducible refine Below.setCell ?_ ?_ _) | go_size))) hb
                 have HO8 : Hid (w8.ownsRow w7.heap.size 2 1 r now.length (now.map (Value.int .i64))) := own_base hr (by simp)
                 replace HKEEP := Lib.hid (HR7.out.below HB8.out).c2
                 have hs8 := HB8.out.size
                 have HBP := Lib.hid hb
                 clear hb hr)
              | (refine step_append_lies _ (by rfl) _ _ 36 (by rfl) w7.heap.size 2 ni0 (.int .i64 0) 1 8 Try.underlying36 hni hni0 hni1 hni2 rfl (by decide) _ _ _ (by rfl) (HO8.out.alloc _) ⟨w8.heap.size, 0, none⟩ 1 1 [.int .i64 k] (by rfl) rfl (cells_new _ _ _) (by simp [Value.oneCell']) (by omega) (by unfold maxLen; omega) (by omega) (by simp; omega) (w8.heap.size + 1) (by simp) ?_
                 intro g cap w9 hown9 hg9 hat9 hlt9
                 have HO9 : Hid (Ro w9 w7.heap.size (.slice (some ⟨g, 0, none⟩) (now.length + 1) cap) (now ++ [(k : Int)])) := by { unfold Hid Ro; rw [List.length_append, List.map_append]; exact hown9 }
                 have HB9 : Hid (Below w7.heap.size w7 w9) := (HB8.out.alloc HB8.out.size _).grown hg9 (by simp; omega) (own_block HO8.out)
                 have hgb := (hown9.lt g rfl).1
                 replace HKEEP := Lib.hid (HR7.out.below HB9.out).c2
                 clear hown9 hg9 hat9)
              | (refine step_append_lies _ (by rfl) _ _ 36 (by rfl) w7.heap.size 2 ni0 (.int .i64 0) 1 8 Try.underlying36 hni hni0 hni1 hni2 rfl (by decide) _ _ _ (by rfl) HO8.out ⟨w7.heap.size, 0, none⟩ 1 1 [.int .i64 k] (by rfl) rfl (cells_old HBP.out (by first | (simp; done) | omega) (cells_new w7 _ _)) (by simp [Value.oneCell']) (by omega) (by unfold maxLen; omega) (by omega) (by omega) w8.heap.size rfl ?_
                 intro g cap w9 hown9 hg9 hat9 hlt9
                 have HO9 : Hid (Ro w9 w7.heap.size (.slice (some ⟨g, 0, none⟩) (now.length + 1) cap) (now ++ [(k : Int)])) := by { unfold Hid Ro; rw [List.length_append, List.map_append]; exact hown9 }
                 have HB9 : Hid (Below w7.heap.size w7 w9) := HB8.out.grown hg9 (by omega) (own_block HO8.out)
                 have hgb := (hown9.lt g rfl).1
                 replace HKEEP := Lib.hid (HR7.out.below HB9.out).c2
                 clear hown9 hg9 hat9)
              | (go_at_call 35
                 refine (HIH.out K base (L ++ S k) (now ++ [(k : Int)]) u1 (.slice (some ⟨g, 0, none⟩) (now.length + 1) cap) _ (by rw [HKD.out, List.length_append]; simp; omega) hK5 (Nat.le_trans (by omega) HB9.out.size) (HA7.out.below HB9.out) HAB.out (HL7.out.below HB9.out) (own_base HO9.out (by omega)) HRS.out (fun b e e2 => by have := (HU1.out b e2).2; simp only [Value.ownBlock, Option.some.injEq] at e; omega) HLE.out).mono ?_
                 rintro e w10 ⟨u2, rfl, hL2, hG2⟩
                 have HL2 := Lib.hid hL2; have HG2 := Lib.hid hG2
                 replace HKEEP := Lib.hid ((HR7.out.below HB9.out).grown hG2.1 HU2.out).c2
                 clear hL2 hG2))
            all_goals
              go_wp2
              go_roundw
              case rel => exact ⟨k + 1, by omega, by omega, by go_num, ((HC.out.1.below HB7.out).below HB9.out).join HG2.out, by rw [HSTk.out, if_pos ⟨hk0, hok⟩, ← List.append_assoc]; exact HL2.out⟩
              case measure => simp [intOf]; omega
        · obtain rfl : k = xs.length := by omega
          go_wp2
          go_ret
          exact ⟨_, rfl, by rw [HD.out]; exact HC.out.2, by rw [← hWo] at HC; exact Since.ofAlloc HC.out.1⟩

end Go.Proofs.Ytabgmjakkgalgaa

/- Rows of numbers that a call makes and writes; conditions: none. -/
namespace Go.Proofs.Ytabgmjakkgalgaa
open Go.RowKit

def icells (n : Nat) (F : Nat → Int) : Array Value := ((List.range n).map fun i => Value.int .i64 (F i)).toArray
theorem icells_size (n : Nat) (F : Nat → Int) : (icells n F).size = n := by simp [icells]
theorem icells_get {n i : Nat} (F : Nat → Int) (h : i < n) : (icells n F)[i]? = some (.int .i64 (F i)) := by simp [icells, h]
theorem icells_set (n i : Nat) (F : Nat → Int) (v : Int) : (icells n F).setIfInBounds i (.int .i64 v) = icells n (upd F i v) := by
  apply Array.ext_getElem?
  intro j
  rw [Array.getElem?_setIfInBounds, icells_size]
  by_cases h : i = j
  · subst h
    rw [if_pos rfl]
    by_cases hi : i < n
    · rw [if_pos hi, icells_get _ hi]; simp [upd]
    · rw [if_neg hi, Array.getElem?_eq_none (by rw [icells_size]; omega)]
  · rw [if_neg h]
    by_cases hj : j < n
    · rw [icells_get _ hj, icells_get _ hj, upd, if_neg (fun e => h e.symm)]
    · rw [Array.getElem?_eq_none (by rw [icells_size]; omega), Array.getElem?_eq_none (by rw [icells_size]; omega)]
/-- Block g holds the n numbers F 0, F 1, .. -/
def Va (w : World) (g n : Nat) (F : Nat → Int) : Prop := Row w g 2 (icells n F)
theorem Va.lt {w : World} {g n : Nat} {F : Nat → Int} (h : Va w g n F) : g < w.heap.size := Row.lt h
theorem Va.below {w w' : World} {g n : Nat} {F : Nat → Int} (h : Va w g n F) (hb : Below w.heap.size w w') : Va w' g n F := Row.below h hb
theorem Va.cell {w : World} {g n : Nat} {F : Nat → Int} (h : Va w g n F) {i : Nat} (hi : i < n) : w.cell? ⟨g, i, none⟩ = some (.int .i64 (F i)) := (Row.cell h i).trans (icells_get F hi)
theorem Va.frozen {w : World} {g n : Nat} {F : Nat → Int} (h : Va w g n F) (i : Nat) : w.frozen? ⟨g, i, none⟩ = false := Row.frozen h i
theorem Va.set {w : World} {g n : Nat} {F : Nat → Int} (h : Va w g n F) (i : Nat) (v : Int) : Va (w.setCell ⟨g, i, none⟩ (.int .i64 v)) g n (upd F i v) := by
  have := Row.set h i (.int .i64 v)
  rw [icells_set] at this
  exact this
theorem Va.ext {w : World} {g n : Nat} {F G : Nat → Int} (h : Va w g n F) (e : ∀ i, i < n → F i = G i) : Va w g n G := by
  have : icells n F = icells n G := by unfold icells; congr 1; exact List.map_congr_left fun i hi => by rw [e i (List.mem_range.1 hi)]
  unfold Va at *; rwa [← this]
theorem Va.make {w : World} {base g n : Nat} (h : w.ownsRow base 2 1 (.slice (some ⟨g, 0, none⟩) n n) n (madeCells (Value.cells (.int .i64 0)) (n * 1)).toList) : Va w g n (fun _ => 0) := by
  rcases h.2 with ⟨h', _⟩ | ⟨g', cap, cur, h', _, hg, _, _, hcs, htk⟩
  · cases h'
  · simp only [Value.slice.injEq, Option.some.injEq, Addr.mk.injEq, and_true, true_and] at h'
    obtain ⟨rfl, rfl⟩ := h'
    have : cur = icells n (fun _ => 0) := by
      apply Array.ext'
      rw [← List.take_of_length_le (l := cur.toList) (i := n * 1) (by simp [hcs]), htk]
      simp [icells, madeCells, Value.cells, Nat.mod_one]
    rw [this] at hg
    exact hg
theorem Va.own {w : World} {base g n : Nat} {F : Nat → Int} (h : Va w g n F) (hb : base ≤ g) (hn : n ≤ maxLen) : w.ownsRow base 2 1 (.slice (some ⟨g, 0, none⟩) n n) n (((List.range n).map F).map (Value.int .i64)) := by
  refine ⟨by simp, .inr ⟨g, n, icells n F, rfl, hb, h, Nat.le_refl _, hn, by simp [icells], ?_⟩⟩
  rw [List.take_of_length_le (by simp [icells])]
  simp [icells]

end Go.Proofs.Ytabgmjakkgalgaa

/- Plain laws of the renumberings of full systems: both searches find the same ones, and there are fewer than a million. Conditions: none. -/
namespace Go.Proofs.Ytabgmjakkgalgaa

/-- third points of n points, each pair in just one block -/
structure Sts (n : Nat) (T : Nat → Nat → Nat) : Prop where
  rng : ∀ a b, a < n → b < n → a ≠ b → T a b < n ∧ T a b ≠ a ∧ T a b ≠ b
  sym : ∀ a b, T a b = T b a
  inv : ∀ a b, a < n → b < n → a ≠ b → T a (T a b) = b
def im (L : List Int) (k : Nat) : Nat := (nthI L k).toNat
noncomputable def usedB (L : List Int) (i : Nat) : Bool := open Classical in decide (∃ k, k < L.length ∧ im L k = i)
theorem usedB_iff {L : List Int} {i : Nat} : usedB L i = true ↔ ∃ k, k < L.length ∧ im L k = i := by unfold usedB; simp
theorem usedB_not {L : List Int} {i : Nat} : usedB L i = false ↔ ∀ k, k < L.length → im L k ≠ i := by unfold usedB; simp
noncomputable def fitI (T1 T2 : Nat → Nat → Nat) (L : List Int) (i : Nat) : Bool := open Classical in decide (usedB L i = false ∧ ∀ a, a < L.length → T1 a L.length < L.length → T2 (im L a) i = im L (T1 a L.length))
noncomputable def fitS (T1 T2 : Nat → Nat → Nat) (L : List Int) (i : Nat) : Bool := open Classical in decide (usedB L i = false ∧ ∀ q, q < L.length → (T1 L.length q < L.length → im L (T1 L.length q) = T2 i (im L q)) ∧ (¬ T1 L.length q < L.length → usedB L (T2 i (im L q)) = false))
theorem fitI_iff {T1 T2 : Nat → Nat → Nat} {L : List Int} {i : Nat} : fitI T1 T2 L i = true ↔ usedB L i = false ∧ ∀ a, a < L.length → T1 a L.length < L.length → T2 (im L a) i = im L (T1 a L.length) := by unfold fitI; simp
theorem fitS_iff {T1 T2 : Nat → Nat → Nat} {L : List Int} {i : Nat} : fitS T1 T2 L i = true ↔ usedB L i = false ∧ ∀ q, q < L.length → (T1 L.length q < L.length → im L (T1 L.length q) = T2 i (im L q)) ∧ (¬ T1 L.length q < L.length → usedB L (T2 i (im L q)) = false) := by unfold fitS; simp
/-- all lists that go on from one -/
def enumL (n : Nat) (ok : List Int → Nat → Bool) : Nat → List Int → List (List Int)
  | 0, L => [L]
  | d + 1, L => loopL (fun i => enumL n ok d (L ++ [(i : Int)])) (ok L) 0 n
theorem loop_mem {f : Nat → List (List Int)} {p : Nat → Bool} {a : Nat} : ∀ {m : Nat} {l : List Int}, l ∈ loopL f p a m → ∃ i, a ≤ i ∧ i < m ∧ p i = true ∧ l ∈ f i := by
  intro m
  induction m with
  | zero => intro l h; simp [loopL] at h
  | succ m ih =>
    intro l h
    rw [loopL, List.mem_append] at h
    rcases h with h | h
    · obtain ⟨i, h1, h2, h3⟩ := ih h; exact ⟨i, h1, by omega, h3⟩
    · by_cases e : a ≤ m ∧ p m = true
      · rw [if_pos e] at h; exact ⟨m, e.1, by omega, e.2, h⟩
      · rw [if_neg e] at h; simp at h
theorem loop_same {f g : Nat → List (List Int)} {p q : Nat → Bool} {n : Nat} (h : ∀ i, i < n → (p i = true → q i = true ∧ f i = g i) ∧ (p i = false → q i = true → g i = [])) : ∀ m, m ≤ n → loopL f p 0 m = loopL g q 0 m := by
  intro m
  induction m with
  | zero => intro _; rfl
  | succ m ih =>
    intro hm
    rw [loopL, loopL, ih (by omega)]
    congr 1
    obtain ⟨h1, h2⟩ := h m (by omega)
    cases hp : p m
    · rw [if_neg (by simp)]
      cases hq : q m
      · rw [if_neg (by simp)]
      · rw [if_pos ⟨Nat.zero_le _, rfl⟩, h2 hp hq]
    · obtain ⟨hq, e⟩ := h1 hp
      rw [if_pos ⟨Nat.zero_le _, rfl⟩, if_pos ⟨Nat.zero_le _, hq⟩, e]
theorem im_app {L : List Int} {x : Int} {k : Nat} (h : k < L.length) : im (L ++ [x]) k = im L k := by unfold im; rw [nthI_app h]
theorem im_last (L : List Int) (i : Nat) : im (L ++ [(i : Int)]) L.length = i := by unfold im; rw [nthI_last]; rfl
/-- a beginning of a renumbering -/
structure Val (n : Nat) (T1 T2 : Nat → Nat → Nat) (L : List Int) : Prop where
  len : L.length ≤ n
  rng : ∀ k, k < L.length → im L k < n ∧ nthI L k = (im L k : Int)
  inj : ∀ j k, j < L.length → k < L.length → im L j = im L k → j = k
  hom : ∀ a b, a < L.length → b < L.length → a ≠ b → T1 a b < L.length → T2 (im L a) (im L b) = im L (T1 a b)
theorem val_nil (n : Nat) (T1 T2 : Nat → Nat → Nat) : Val n T1 T2 [] := ⟨by simp, fun k hk => by simp at hk, fun j k hj => by simp at hj, fun a b ha => by simp at ha⟩
theorem val_step {n : Nat} {T1 T2 : Nat → Nat → Nat} (h1 : Sts n T1) (h2 : Sts n T2) {L : List Int} {i : Nat} (hv : Val n T1 T2 L) (hl : L.length < n) (hi : i < n) (ok : fitI T1 T2 L i = true) : Val n T1 T2 (L ++ [(i : Int)]) := by
  obtain ⟨hu, hg⟩ := fitI_iff.1 ok
  rw [usedB_not] at hu
  have hlen : (L ++ [(i : Int)]).length = L.length + 1 := by simp
  have hne : ∀ k, k < L.length → im L k ≠ i := hu
  refine ⟨by rw [hlen]; omega, fun k hk => ?_, fun j k hj hk e => ?_, fun a b ha hb hab hT => ?_⟩
  · rw [hlen] at hk
    by_cases e : k = L.length
    · subst e; rw [im_last, nthI_last]; exact ⟨hi, rfl⟩
    · rw [im_app (by omega), nthI_app (by omega)]; exact hv.rng k (by omega)
  · rw [hlen] at hj hk
    by_cases ej : j = L.length <;> by_cases ek : k = L.length
    · omega
    · subst ej; rw [im_last, im_app (by omega)] at e; exact absurd e.symm (hne k (by omega))
    · subst ek; rw [im_last, im_app (by omega)] at e; exact absurd e (hne j (by omega))
    · rw [im_app (by omega), im_app (by omega)] at e; exact hv.inj j k (by omega) (by omega) e
  · rw [hlen] at ha hb hT
    by_cases ea : a = L.length
    · subst ea
      have hbl : b < L.length := by omega
      have hr := h1.rng L.length b hl (by omega) hab
      have hTl : T1 L.length b < L.length := by omega
      rw [im_last, im_app hbl, im_app hTl, h2.sym, h1.sym]
      rw [h1.sym] at hTl
      exact hg b hbl hTl
    · by_cases eb : b = L.length
      · subst eb
        have hal : a < L.length := by omega
        have hr := h1.rng a L.length (by omega) hl hab
        have hTl : T1 a L.length < L.length := by omega
        rw [im_last, im_app hal, im_app hTl]
        exact hg a hal hTl
      · have hal : a < L.length := by omega
        have hbl : b < L.length := by omega
        by_cases eT : T1 a b = L.length
        · rw [im_app hal, im_app hbl, eT, im_last]
          have e1 : T1 a L.length = b := by rw [← eT]; exact h1.inv a b (by omega) (by omega) hab
          have e2 := hg a hal (by rw [e1]; exact hbl)
          rw [e1] at e2
          rw [← e2]
          exact h2.inv _ _ (hv.rng a hal).1 hi (hne a hal)
        · rw [im_app hal, im_app hbl, im_app (by omega)]
          exact hv.hom a b hal hbl hab (by omega)
theorem enum_val {n : Nat} {T1 T2 : Nat → Nat → Nat} (h1 : Sts n T1) (h2 : Sts n T2) : ∀ d L, Val n T1 T2 L → L.length + d = n → ∀ M ∈ enumL n (fitI T1 T2) d L, Val n T1 T2 M ∧ M.length = n ∧ ∀ k, k < L.length → nthI M k = nthI L k := by
  intro d
  induction d with
  | zero => intro L hv hd M hM; rw [enumL, List.mem_singleton] at hM; subst hM; exact ⟨hv, by omega, fun _ _ => rfl⟩
  | succ d ih =>
    intro L hv hd M hM
    rw [enumL] at hM
    obtain ⟨i, _, hi, ok, hM⟩ := loop_mem hM
    obtain ⟨k1, k2, k3⟩ := ih _ (val_step h1 h2 hv (by omega) hi ok) (by simp; omega) M hM
    exact ⟨k1, k2, fun k hk => by rw [k3 k (by simp; omega), nthI_app hk]⟩
theorem enum_at {n : Nat} {ok : List Int → Nat → Bool} : ∀ d L, ∀ M ∈ enumL n ok d L, M.length = L.length + d ∧ ∀ k, k < L.length → nthI M k = nthI L k := by
  intro d
  induction d with
  | zero => intro L M hM; rw [enumL, List.mem_singleton] at hM; subst hM; exact ⟨by omega, fun _ _ => rfl⟩
  | succ d ih =>
    intro L M hM
    rw [enumL] at hM
    obtain ⟨i, _, hi, _, hM⟩ := loop_mem hM
    obtain ⟨k2, k3⟩ := ih _ M hM
    rw [List.length_append, List.length_singleton] at k2
    exact ⟨by omega, fun k hk => by rw [k3 k (by simp; omega), nthI_app hk]⟩
theorem enum_same {n : Nat} {T1 T2 : Nat → Nat → Nat} (h1 : Sts n T1) (h2 : Sts n T2) : ∀ d L, Val n T1 T2 L → L.length + d = n → enumL n (fitS T1 T2) d L = enumL n (fitI T1 T2) d L := by
  intro d
  induction d with
  | zero => intro L _ _; rfl
  | succ d ih =>
    intro L hv hd
    rw [enumL, enumL]
    refine loop_same (n := n) (fun i hi => ⟨fun hs => ?_, fun hs hI => ?_⟩) n (Nat.le_refl _)
    · obtain ⟨hu, hg⟩ := fitS_iff.1 hs
      have hI : fitI T1 T2 L i = true := fitI_iff.2 ⟨hu, fun a ha hT => by
        rw [h1.sym] at hT ⊢
        rw [(hg a ha).1 hT, h2.sym]⟩
      exact ⟨hI, ih _ (val_step h1 h2 hv (by omega) hi hI) (by simp; omega)⟩
    · obtain ⟨hu, hg⟩ := fitI_iff.1 hI
      rw [List.eq_nil_iff_forall_not_mem]
      intro M hM
      obtain ⟨k1, k2, k3⟩ := enum_val h1 h2 d _ (val_step h1 h2 hv (by omega) hi hI) (by simp; omega) M hM
      rw [← Bool.not_eq_true, fitS_iff] at hs
      apply hs
      refine ⟨hu, fun q hq => ⟨fun hT => ?_, fun hT => ?_⟩⟩
      · have := hg q hq (by rw [h1.sym]; exact hT)
        rw [h1.sym L.length q, ← this, h2.sym]
      · rw [usedB_not]
        intro j hj e
        have hr := h1.rng L.length q (by omega) (by omega) (by omega)
        have e1 : im M L.length = i := by unfold im; rw [k3 _ (by simp), nthI_last]; rfl
        have e2 : ∀ k, k < L.length → im M k = im L k := fun k hk => by unfold im; rw [k3 k (by simp; omega), nthI_app hk]
        have hh := k1.hom L.length q (by omega) (by omega) (by omega) (by omega)
        rw [e1, e2 q hq, ← e, ← e2 j hj] at hh
        have := k1.inj j (T1 L.length q) (by omega) (by omega) hh
        omega
theorem loop_nodup {f : Nat → List (List Int)} {p : Nat → Bool} (h1 : ∀ i, (f i).Nodup) (h2 : ∀ i j l, l ∈ f i → l ∈ f j → i = j) : ∀ m, (loopL f p 0 m).Nodup := by
  intro m
  induction m with
  | zero => simp [loopL]
  | succ m ih =>
    rw [loopL]
    split
    · rw [List.nodup_append]
      refine ⟨ih, h1 m, ?_⟩
      intro a ha b hb e
      subst e
      obtain ⟨i, _, hi, _, h⟩ := loop_mem ha
      have := h2 i m a h hb
      omega
    · rw [List.append_nil]; exact ih
theorem enum_nodup {n : Nat} {ok : List Int → Nat → Bool} : ∀ d L, (enumL n ok d L).Nodup := by
  intro d
  induction d with
  | zero => intro L; simp [enumL]
  | succ d ih =>
    intro L
    rw [enumL]
    refine loop_nodup (fun i => ih _) (fun i j l h1 h2 => ?_) n
    have e1 := (enum_at d _ l h1).2 L.length (by simp)
    have e2 := (enum_at d _ l h2).2 L.length (by simp)
    rw [nthI_last] at e1 e2
    omega
theorem nodup_lt : ∀ (N : Nat) (l : List Nat), l.Nodup → (∀ x ∈ l, x < N) → l.length ≤ N := by
  intro N
  induction N with
  | zero =>
    intro l _ h
    cases l with
    | nil => simp
    | cons x l => have := h x (by simp); omega
  | succ N ih =>
    intro l hn h
    have h2 := ih (l.erase N) (hn.erase N) (fun x hx => by
      have h3 := (hn.mem_erase_iff).1 hx
      have := h x h3.2
      have := h3.1
      omega)
    have := List.length_erase_le (a := N) (l := l)
    by_cases hm : N ∈ l
    · rw [List.length_erase_of_mem hm] at h2
      omega
    · rw [List.erase_of_not_mem hm] at h2; omega

/-! Few points give all of a full system. -/
theorem sumN_swap (f : Nat → Nat → Nat) (n : Nat) : ∀ m, sumN (fun i => sumN (f i) n) m = sumN (fun j => sumN (fun i => f i j) m) n := by
  intro m
  induction m with
  | zero =>
    have : sumN (fun j => sumN (fun i => f i j) 0) n = sumN (fun _ => 0) n := sumN_congr n fun j _ => rfl
    rw [this, sumN_const]; simp [sumN]
  | succ m ih =>
    rw [sumN, ih, ← sumN_add]
    exact sumN_congr n fun j _ => rfl
theorem sumN_at (a n : Nat) (P : Bool) : sumN (fun j => if (decide (j = a) && P) = true then 1 else 0) n = if a < n ∧ P = true then 1 else 0 := by
  rw [sumN_cnt]
  induction n with
  | zero => simp [cntF]
  | succ n ih =>
    rw [cntF, ih]
    by_cases e : n = a
    · subst e
      cases P <;> simp
    · by_cases hl : a < n
      · have : a < n + 1 := by omega
        simp [e, hl, this]
      · have : ¬ a < n + 1 := by omega
        simp [e, hl, this]
theorem cnt_turn {n x : Nat} {T : Nat → Nat → Nat} (hT : Sts n T) (hx : x < n) {f : Nat → Bool} (hf : f x = false) : cntF (fun b => decide (b ≠ x) && f (T x b)) n = cntF f n := by
  rw [← sumN_cnt, ← sumN_cnt]
  have e1 : ∀ b, b < n → (if (decide (b ≠ x) && f (T x b)) = true then 1 else 0) = sumN (fun a => if (decide (a = T x b) && (decide (b ≠ x) && f (T x b))) = true then 1 else 0) n := by
    intro b hb
    rw [sumN_at]
    by_cases e : b = x
    · simp [e]
    · have := (hT.rng x b hx hb (Ne.symm e)).1
      simp [e, this]
  rw [sumN_congr n e1, sumN_swap]
  refine sumN_congr n fun a ha => ?_
  by_cases e : a = x
  · subst e
    have : ∀ b, b < n → (if (decide (a = T a b) && (decide (b ≠ a) && f (T a b))) = true then 1 else 0) = (fun _ => 0) b := by
      intro b hb
      by_cases e2 : b = a
      · simp [e2]
      · have := (hT.rng a b hx hb (Ne.symm e2)).2.1
        simp [Ne.symm this]
    rw [sumN_congr n this, sumN_const, hf]; simp
  · have hr := hT.rng x a hx ha (Ne.symm e)
    have : ∀ b, b < n → (if (decide (a = T x b) && (decide (b ≠ x) && f (T x b))) = true then 1 else 0) = (if (decide (b = T x a) && f a) = true then 1 else 0) := by
      intro b hb
      by_cases e2 : a = T x b
      · by_cases e3 : b = x
        · subst e3
          have hne : ¬ b = T b a := fun h => hr.2.1 h.symm
          simp [hne]
        · have e4 : b = T x a := by rw [e2]; exact (hT.inv x b hx hb (Ne.symm e3)).symm
          rw [← e2]
          simp [e3, ← e4]
      · have e4 : ¬ b = T x a := fun h => e2 (by rw [h]; exact (hT.inv x a hx ha (Ne.symm e)).symm)
        simp [e2, e4]
    rw [sumN_congr n this, sumN_at]
    simp [hr.1]
def Cls (n : Nat) (T : Nat → Nat → Nat) (S : Nat → Bool) : Prop := ∀ a b, a < n → b < n → a ≠ b → S a = true → S b = true → S (T a b) = true
def Gen (n : Nat) (T : Nat → Nat → Nat) (gs : List Nat) (c : Nat) : Prop := ∀ S, Cls n T S → (∀ g ∈ gs, S g = true) → c ≤ cntF S n
theorem cntF_mono {f g : Nat → Bool} (n : Nat) (h : ∀ j, j < n → f j = true → g j = true) : cntF f n ≤ cntF g n := by
  induction n with
  | zero => simp [cntF]
  | succ n ih =>
    have h1 := ih (fun j hj => h j (by omega)); have h2 := h n (by omega)
    rw [cntF, cntF]
    cases hf : f n <;> cases hg : g n <;> simp_all <;> omega
noncomputable def hull (n : Nat) (T : Nat → Nat → Nat) (gs : List Nat) (a : Nat) : Bool := open Classical in decide (∀ S, Cls n T S → (∀ g ∈ gs, S g = true) → S a = true)
theorem hull_iff {n : Nat} {T : Nat → Nat → Nat} {gs : List Nat} {a : Nat} : hull n T gs a = true ↔ ∀ S, Cls n T S → (∀ g ∈ gs, S g = true) → S a = true := by unfold hull; simp
theorem gen_step {n c : Nat} {T : Nat → Nat → Nat} (hT : Sts n T) (hn : 0 < n) {gs : List Nat} (h : Gen n T gs c) : ∃ x, x < n ∧ Gen n T (x :: gs) (min n (2 * c + 1)) := by
  have hcl : Cls n T (hull n T gs) := by
    intro a b ha hb hab h1 h2
    rw [hull_iff] at *
    intro S hS hg
    exact hS a b ha hb hab (h1 S hS hg) (h2 S hS hg)
  have hgs : ∀ g ∈ gs, hull n T gs g = true := fun g hg => hull_iff.2 fun S _ hS => hS g hg
  have hc := h _ hcl hgs
  by_cases hall : ∀ a, a < n → hull n T gs a = true
  · refine ⟨0, hn, fun S hS hg => ?_⟩
    have : cntF S n = n := (cntF_all n).2 fun a ha => hull_iff.1 (hall a ha) S hS (fun g hg' => hg g (by simp [hg']))
    omega
  · simp only [Classical.not_forall] at hall
    obtain ⟨x, hx, hnx⟩ := hall
    have hfx : hull n T gs x = false := by simpa using hnx
    refine ⟨x, hx, fun S hS hg => ?_⟩
    have hSx := hg x (by simp)
    have hsub : ∀ a, hull n T gs a = true → S a = true := fun a ha => hull_iff.1 ha S hS (fun g hg' => hg g (by simp [hg']))
    have e1 := cnt_turn hT hx hfx
    have hor1 := cntF_or (f := fun b => decide (b = x)) (g := fun b => decide (b ≠ x) && hull n T gs (T x b)) (h := fun b => decide (b = x) || (decide (b ≠ x) && hull n T gs (T x b))) n (fun j _ => ⟨rfl, by by_cases e : j = x <;> simp [e]⟩)
    have hor2 := cntF_or (f := hull n T gs) (g := fun b => decide (b = x) || (decide (b ≠ x) && hull n T gs (T x b))) (h := fun b => hull n T gs b || (decide (b = x) || (decide (b ≠ x) && hull n T gs (T x b)))) n (fun j hj => ⟨rfl, by
      by_cases e : j = x
      · subst e; simp [hfx]
      · cases hj1 : hull n T gs j
        · simp
        · cases hj2 : hull n T gs (T x j)
          · simp [e, hj2]
          · exfalso
            have hr := hT.rng x j hx hj (Ne.symm e)
            have := hcl j (T x j) hj hr.1 (Ne.symm hr.2.2) hj1 hj2
            rw [hT.sym x j, hT.inv j x hj hx e] at this
            rw [hfx] at this; cases this⟩)
    have hmono := cntF_mono (f := fun b => hull n T gs b || (decide (b = x) || (decide (b ≠ x) && hull n T gs (T x b)))) (g := S) n (fun j hj h => by
      simp only [Bool.or_eq_true, Bool.and_eq_true, decide_eq_true_eq] at h
      rcases h with h | h | ⟨h1, h2⟩
      · exact hsub j h
      · rw [h]; exact hSx
      · have hr := hT.rng x j hx hj (Ne.symm h1)
        have := hS x (T x j) hx hr.1 (Ne.symm hr.2.1) hSx (hsub _ h2)
        rw [hT.inv x j hx hj (Ne.symm h1)] at this
        exact this)
    have e2 := cntF_eq x n hx
    omega
theorem gen_four {n : Nat} {T : Nat → Nat → Nat} (hT : Sts n T) (hn : 0 < n) (h15 : n ≤ 15) : ∃ a b c d, a < n ∧ b < n ∧ c < n ∧ d < n ∧ ∀ S, Cls n T S → S a = true → S b = true → S c = true → S d = true → ∀ k, k < n → S k = true := by
  obtain ⟨a, ha, h1⟩ := gen_step hT hn (gs := []) (c := 0) (fun S _ _ => Nat.zero_le _)
  obtain ⟨b, hb, h2⟩ := gen_step hT hn h1
  obtain ⟨c, hc, h3⟩ := gen_step hT hn h2
  obtain ⟨d, hd, h4⟩ := gen_step hT hn h3
  refine ⟨a, b, c, d, ha, hb, hc, hd, fun S hS sa sb sc sd => ?_⟩
  have h5 := h4 S hS (by intro g hg; simp at hg; rcases hg with rfl | rfl | rfl | rfl <;> assumption)
  have := cntF_le S n
  exact (cntF_all n).1 (by omega)
theorem autos_few {n : Nat} {T1 T2 : Nat → Nat → Nat} (h1 : Sts n T1) (h2 : Sts n T2) (hn : 0 < n) (h15 : n ≤ 15) : (enumL n (fitI T1 T2) n []).length ≤ 50625 := by
  obtain ⟨a, b, c, d, ha, hb, hc, hd, hg⟩ := gen_four h1 hn h15
  have hv := enum_val h1 h2 n [] (val_nil n T1 T2) (by simp)
  have hk : ((enumL n (fitI T1 T2) n []).map fun M => ((im M a * 15 + im M b) * 15 + im M c) * 15 + im M d).Nodup := by
    rw [List.nodup_iff_pairwise_ne, List.pairwise_map]
    have hnd := enum_nodup (n := n) (ok := fitI T1 T2) n []
    rw [List.nodup_iff_pairwise_ne] at hnd
    refine List.Pairwise.imp_of_mem (fun {M M'} hM hM' hne e => hne ?_) hnd
    obtain ⟨v1, l1, _⟩ := hv M hM
    obtain ⟨v2, l2, _⟩ := hv M' hM'
    have r : ∀ k, k < n → im M k < 15 ∧ im M' k < 15 := fun k hk => ⟨Nat.lt_of_lt_of_le (v1.rng k (by omega)).1 h15, Nat.lt_of_lt_of_le (v2.rng k (by omega)).1 h15⟩
    have ra := r a ha; have rb := r b hb; have rc := r c hc; have rd := r d hd
    have hS : Cls n T1 (fun k => decide (im M k = im M' k)) := by
      intro p q hp hq hpq s1 s2
      simp only [decide_eq_true_eq] at *
      have hr := (h1.rng p q hp hq hpq).1
      rw [← v1.hom p q (by omega) (by omega) hpq (by omega), ← v2.hom p q (by omega) (by omega) hpq (by omega), s1, s2]
    have hall := hg _ hS (by simp; omega) (by simp; omega) (by simp; omega) (by simp; omega)
    simp only [decide_eq_true_eq] at hall
    apply List.ext_getElem (by omega)
    intro k hk1 hk2
    have e1 := (v1.rng k hk1).2
    have e2 := (v2.rng k hk2).2
    have e3 := hall k (by omega)
    unfold nthI at e1 e2
    simp only [List.getD_eq_getElem?_getD, List.getElem?_eq_getElem hk1, List.getElem?_eq_getElem hk2, Option.getD_some] at e1 e2
    rw [e1, e2, e3]
  have h3 := nodup_lt 50625 _ hk (by
    intro x hx
    obtain ⟨M, hM, rfl⟩ := List.mem_map.1 hx
    obtain ⟨v1, l1, _⟩ := hv M hM
    have r : ∀ k, k < n → im M k < 15 := fun k hk => Nat.lt_of_lt_of_le (v1.rng k (by omega)).1 h15
    have ra := r a ha; have rb := r b hb; have rc := r c hc; have rd := r d hd
    omega)
  rwa [List.length_map] at h3

end Go.Proofs.Ytabgmjakkgalgaa

/- Plain laws of sets of points by their bits, and of closed sets. Conditions: none. -/
namespace Go.Proofs.Ytabgmjakkgalgaa

/-- the points of the first k numbers of a list -/
def bitsL (ls : List Int) : Nat → Nat
  | 0 => 0
  | k + 1 => bitsL ls k ||| 2 ^ (nthI ls k).toNat
theorem bitsL_bit (ls : List Int) (j : Nat) : ∀ k, (bitsL ls k).testBit j = true ↔ ∃ i, i < k ∧ (nthI ls i).toNat = j := by
  intro k
  induction k with
  | zero => simp [bitsL]
  | succ k ih =>
    rw [bitsL, Nat.testBit_or, Bool.or_eq_true, ih, Nat.testBit_two_pow]
    simp only [decide_eq_true_eq]
    constructor
    · rintro (⟨i, h1, h2⟩ | h)
      · exact ⟨i, by omega, h2⟩
      · exact ⟨k, by omega, h⟩
    · rintro ⟨i, h1, h2⟩
      by_cases e : i = k
      · subst e; exact .inr h2
      · exact .inl ⟨i, by omega, h2⟩
theorem bitsL_lt {ls : List Int} {n : Nat} (h : ∀ k, k < ls.length → (nthI ls k).toNat < n) : ∀ k, k ≤ ls.length → bitsL ls k < 2 ^ n := by
  intro k
  induction k with
  | zero => intro _; simp [bitsL]; exact Nat.two_pow_pos n
  | succ k ih =>
    intro hk
    exact Nat.or_lt_two_pow (ih (by omega)) (Nat.pow_lt_pow_right (by omega) (h k (by omega)))
/-- is a set closed -/
def clS (xs : List Blk) (s : Nat) : Prop := ∀ p q : Nat, p < 15 → q < 15 → p ≠ q → s.testBit p = true → s.testBit q = true → third xs p q = -1 ∨ s.testBit (third xs p q).toNat = true
noncomputable def clB (xs : List Blk) (s : Nat) : Bool := open Classical in decide (clS xs s)
theorem clB_true {xs : List Blk} {s : Nat} (h : clS xs s) : clB xs s = true := by unfold clB; simpa using h
theorem clB_false {xs : List Blk} {s : Nat} (h : ¬ clS xs s) : clB xs s = false := by unfold clB; simpa using h
theorem clB_iff {xs : List Blk} {s : Nat} : clB xs s = true ↔ clS xs s := by unfold clB; simp

theorem cntF_at (a n : Nat) (f : Nat → Bool) : cntF (fun j => decide (j = a) && f j) n = if a < n ∧ f a = true then 1 else 0 := by
  induction n with
  | zero => simp [cntF]
  | succ n ih =>
    rw [cntF, ih]
    by_cases e : n = a
    · subst e
      cases h : f n <;> simp [h]
    · by_cases hl : a < n
      · have : a < n + 1 := by omega
        cases h : f a <;> simp [e, hl, h, this]
      · have : ¬ a < n + 1 := by omega
        simp [e, hl, this]
theorem cnt_blk {b : Blk} (hg : goodB 15 b = true) (s : Nat) : cntF (fun j => (maskB b &&& s).testBit j) 15 = (if s.testBit b.1.toNat = true then 1 else 0) + (if s.testBit b.2.1.toNat = true then 1 else 0) + (if s.testBit b.2.2.toNat = true then 1 else 0) := by
  have h := good_bd hg
  have e : ∀ j, (maskB b &&& s).testBit j = ((decide (j = b.1.toNat) && s.testBit j) || ((decide (j = b.2.1.toNat) && s.testBit j) || (decide (j = b.2.2.toNat) && s.testBit j))) := by
    intro j
    rw [Nat.testBit_and, maskB_bit hg]
    have : hasB b j = (decide (j = b.1.toNat) || (decide (j = b.2.1.toNat) || decide (j = b.2.2.toNat))) := by
      rw [Bool.eq_iff_iff, has_iff]; simp only [Bool.or_eq_true, decide_eq_true_eq]; omega
    rw [this]
    cases s.testBit j <;> simp
  rw [cntF_congr 15 (fun j _ => e j)]
  rw [cntF_or (f := fun j => decide (j = b.1.toNat) && s.testBit j) (g := fun j => (decide (j = b.2.1.toNat) && s.testBit j) || (decide (j = b.2.2.toNat) && s.testBit j)) 15 (fun j _ => ⟨rfl, ?_⟩)]
  · rw [cntF_or (f := fun j => decide (j = b.2.1.toNat) && s.testBit j) (g := fun j => decide (j = b.2.2.toNat) && s.testBit j) 15 (fun j _ => ⟨rfl, ?_⟩)]
    · have h1 : b.1.toNat < 15 := by omega
      have h2 : b.2.1.toNat < 15 := by omega
      have h3 : b.2.2.toNat < 15 := by omega
      rw [cntF_at, cntF_at, cntF_at]
      simp only [h1, h2, h3, true_and]
      omega
    · by_cases e1 : j = b.2.1.toNat
      · have : j ≠ b.2.2.toNat := by omega
        simp [this]
      · simp [e1]
  · by_cases e1 : j = b.1.toNat
    · have h1 : j ≠ b.2.1.toNat := by omega
      have h2 : j ≠ b.2.2.toNat := by omega
      simp [h1, h2]
    · simp [e1]
theorem third_of {v : Int} {xs : List Blk} (hs : isSys v xs) {i : Nat} (hi : i < xs.length) {p q : Int} (hne : p ≠ q) (h1 : hasB (nth xs i) p = true) (h2 : hasB (nth xs i) q = true) : third xs p q = sumB (nth xs i) - p - q := by
  have hg : ∀ j, j < xs.length → goodB 15 (nth xs j) = true := fun j hj => good_mono (hs.2.2.1 j hj).1 hs.1.2
  have hb : bothB (nth xs i) p q = true := by unfold bothB; rw [h1, h2]; rfl
  rcases first_of (P := fun j => bothB (nth xs j) p q) xs.length with h | ⟨k, k1, k2, k3⟩
  · rw [h i hi] at hb; cases hb
  · rw [third_at p q xs k k1 k2 k3]
    by_cases e : k = i
    · rw [e]
    · exfalso
      rcases Nat.lt_or_gt_of_ne e with hlt | hgt
      · have := hs.2.2.2 i hi k hlt
        have := com_two (hg i hi) (hg k k1) hne hb k2
        omega
      · have := hs.2.2.2 k k1 i hgt
        have := com_two (hg k k1) (hg i hi) hne k2 hb
        omega
theorem closed_iff {v : Int} {xs : List Blk} (hs : isSys v xs) (s : Nat) : clS xs s ↔ ∀ i, i < xs.length → cntF (fun j => (maskB (nth xs i) &&& s).testBit j) 15 ≠ 2 := by
  have hg : ∀ j, j < xs.length → goodB 15 (nth xs j) = true := fun j hj => good_mono (hs.2.2.1 j hj).1 hs.1.2
  constructor
  · intro h i hi
    have hb := good_bd (hg i hi)
    rw [cnt_blk (hg i hi)]
    obtain ⟨A, hA⟩ := Int.eq_ofNat_of_zero_le hb.1
    obtain ⟨B, hB⟩ := Int.eq_ofNat_of_zero_le (by omega : 0 ≤ (nth xs i).2.1)
    obtain ⟨C, hC⟩ := Int.eq_ofNat_of_zero_le (by omega : 0 ≤ (nth xs i).2.2)
    have a1 : hasB (nth xs i) A = true := has_iff.2 (.inl hA)
    have a2 : hasB (nth xs i) B = true := has_iff.2 (.inr (.inl hB))
    have a3 : hasB (nth xs i) C = true := has_iff.2 (.inr (.inr hC))
    have e12 := third_of hs hi (p := A) (q := B) (by omega) a1 a2
    have e13 := third_of hs hi (p := A) (q := C) (by omega) a1 a3
    have e23 := third_of hs hi (p := B) (q := C) (by omega) a2 a3
    unfold sumB at e12 e13 e23
    have f12 : third xs A B = C := by omega
    have f13 : third xs A C = B := by omega
    have f23 : third xs B C = A := by omega
    have k12 := h A B (by omega) (by omega) (by omega)
    have k13 := h A C (by omega) (by omega) (by omega)
    have k23 := h B C (by omega) (by omega) (by omega)
    rw [f12] at k12; rw [f13] at k13; rw [f23] at k23
    rw [hA, hB, hC]
    simp only [Int.toNat_natCast] at *
    have n1 : ¬ (C : Int) = -1 := by omega
    have n2 : ¬ (B : Int) = -1 := by omega
    have n3 : ¬ (A : Int) = -1 := by omega
    by_cases hx : s.testBit A = true <;> by_cases hy : s.testBit B = true <;> by_cases hz : s.testBit C = true
    all_goals first
      | (rw [if_pos hx, if_pos hy, if_pos hz]; decide)
      | exact absurd ((k12 hx hy).resolve_left n1) hz
      | exact absurd ((k13 hx hz).resolve_left n2) hy
      | exact absurd ((k23 hy hz).resolve_left n3) hx
      | (simp only [if_neg hx, if_neg hy, if_neg hz, if_pos]; omega)
      | (simp [hx, hy, hz])
  · intro h p q hp hq hne h1 h2
    rcases first_of (P := fun j => bothB (nth xs j) p q) xs.length with hn | ⟨i, k1, k2, k3⟩
    · exact .inl (third_none _ _ xs hn)
    · right
      have hc := h i k1
      rw [cnt_blk (hg i k1)] at hc
      have hb := good_bd (hg i k1)
      rw [third_at p q xs i k1 k2 k3]
      unfold bothB at k2
      simp only [Bool.and_eq_true] at k2
      obtain ⟨m1, m2⟩ := k2
      unfold sumB
      obtain ⟨A, hA⟩ := Int.eq_ofNat_of_zero_le hb.1
      obtain ⟨B, hB⟩ := Int.eq_ofNat_of_zero_le (by omega : 0 ≤ (nth xs i).2.1)
      obtain ⟨C, hC⟩ := Int.eq_ofNat_of_zero_le (by omega : 0 ≤ (nth xs i).2.2)
      rw [has_iff, hA, hB, hC] at m1 m2
      rw [hA, hB, hC] at hc ⊢
      simp only [Int.toNat_natCast] at *
      have key : ∀ x y z : Nat, s.testBit x = true → s.testBit y = true → ((if s.testBit x = true then 1 else 0) + (if s.testBit y = true then 1 else 0) + (if s.testBit z = true then 1 else 0) ≠ 2) → s.testBit z = true := by
        intro x y z hx hy hz
        cases hh : s.testBit z
        · rw [hx, hy, hh] at hz; simp at hz
        · rfl
      rcases m1 with e1 | e1 | e1 <;> rcases m2 with e2 | e2 | e2
      · omega
      · have : ((A : Int) + B + C - p - q).toNat = C := by omega
        rw [this]; exact key p q C h1 h2 (by have : p = A := by omega
                                             have : q = B := by omega
                                             subst_vars; exact hc)
      · have : ((A : Int) + B + C - p - q).toNat = B := by omega
        rw [this]; exact key p q B h1 h2 (by have : p = A := by omega
                                             have : q = C := by omega
                                             subst_vars; omega)
      · have : ((A : Int) + B + C - p - q).toNat = C := by omega
        rw [this]; exact key p q C h1 h2 (by have : p = B := by omega
                                             have : q = A := by omega
                                             subst_vars; omega)
      · omega
      · have : ((A : Int) + B + C - p - q).toNat = A := by omega
        rw [this]; exact key p q A h1 h2 (by have : p = B := by omega
                                             have : q = C := by omega
                                             subst_vars; omega)
      · have : ((A : Int) + B + C - p - q).toNat = B := by omega
        rw [this]; exact key p q B h1 h2 (by have : p = C := by omega
                                             have : q = A := by omega
                                             subst_vars; omega)
      · have : ((A : Int) + B + C - p - q).toNat = A := by omega
        rw [this]; exact key p q A h1 h2 (by have : p = C := by omega
                                             have : q = B := by omega
                                             subst_vars; omega)
      · omega
/-- s is the least closed set that has s0 -/
def spanP (xs : List Blk) (s0 s : Nat) : Prop := (∀ j, s0.testBit j = true → s.testBit j = true) ∧ s < 32768 ∧ clS xs s ∧ ∀ S, clS xs S → (∀ j, s0.testBit j = true → S.testBit j = true) → ∀ j, s.testBit j = true → S.testBit j = true
theorem span_uniq {xs : List Blk} {s0 s t : Nat} (h : spanP xs s0 s) (k : spanP xs s0 t) : s = t := by
  apply Nat.eq_of_testBit_eq
  intro j
  rw [Bool.eq_iff_iff]
  exact ⟨h.2.2.2 t k.2.2.1 k.1 j, k.2.2.2 s h.2.2.1 h.1 j⟩
theorem span_self {xs : List Blk} {s0 s : Nat} (h : spanP xs s0 s) : (s == s0) = clB xs s0 := by
  rw [Bool.eq_iff_iff, beq_iff_eq, clB_iff]
  constructor
  · rintro rfl; exact h.2.2.1
  · intro hc
    apply Nat.eq_of_testBit_eq
    intro j
    rw [Bool.eq_iff_iff]
    exact ⟨h.2.2.2 s0 hc (fun _ h => h) j, h.1 j⟩
theorem or_more {s c : Nat} (h : s.testBit c = false) : s < s ||| 2 ^ c := by
  have h1 : s ≤ s ||| 2 ^ c := Nat.left_le_or
  rcases Nat.lt_or_eq_of_le h1 with h2 | h2
  · exact h2
  · have := Nat.testBit_or s (2 ^ c) c
    rw [← h2, h, Nat.testBit_two_pow] at this
    simp at this
/-- the points of a set, in order, of the first k -/
def ptsN (s : Nat) : Nat → List Int
  | 0 => []
  | k + 1 => ptsN s k ++ (if s.testBit k = true then [(k : Int)] else [])
theorem ptsN_len (s k : Nat) : (ptsN s k).length ≤ k := by
  induction k with
  | zero => simp [ptsN]
  | succ k ih => rw [ptsN, List.length_append]; split <;> simp <;> omega
theorem ptsN_mem (s : Nat) : ∀ k (x : Int), x ∈ ptsN s k ↔ ∃ p : Nat, x = p ∧ p < k ∧ s.testBit p = true := by
  intro k
  induction k with
  | zero => intro x; simp [ptsN]
  | succ k ih =>
    intro x
    rw [ptsN, List.mem_append, ih]
    constructor
    · rintro (⟨p, h1, h2, h3⟩ | h)
      · exact ⟨p, h1, by omega, h3⟩
      · split at h
        · rename_i hb; simp at h; exact ⟨k, h, by omega, hb⟩
        · simp at h
    · rintro ⟨p, h1, h2, h3⟩
      by_cases e : p = k
      · subst e; right; rw [if_pos h3]; simp [h1]
      · exact .inl ⟨p, h1, by omega, h3⟩

end Go.Proofs.Ytabgmjakkgalgaa

/- Plain laws that join full systems to the searches for renumberings. Conditions: none. -/
namespace Go.Proofs.Ytabgmjakkgalgaa

def thN (xs : List Blk) (a b : Nat) : Nat := (third xs a b).toNat
theorem sts_of {n : Nat} {xs : List Blk} (hs : isSys n xs) (hf : fullB n xs = true) : Sts n (thN xs) := by
  refine ⟨fun a b ha hb hab => ?_, fun a b => by unfold thN; rw [third_symm], fun a b ha hb hab => ?_⟩
  · have := third_full hs hf (p := a) (q := b) (by omega) (by omega) hab
    unfold thN; omega
  · obtain ⟨j, h1, h2⟩ := full_cov hs hf (p := a) (q := b) (by omega) (by omega) hab
    obtain ⟨a1, a2, a3⟩ := inB_iff.1 h2
    have e := third_of hs h1 (p := a) (q := b) (by omega) a2 a3
    have hr := third_full hs hf (p := a) (q := b) (by omega) (by omega) hab
    have h4 := in_third (hs.2.2.1 j h1).1 h2
    have e2 : ((thN xs a b : Nat) : Int) = third xs a b := by unfold thN; omega
    have e3 := third_of hs h1 (p := a) (q := third xs a b) (Ne.symm hr.2.2.1) a2 (by rw [e]; exact h4.2.2)
    unfold thN at *
    rw [e2, e3]
    omega
/-- the code of full systems -/
noncomputable def fcode (v : Int) (xs : List Blk) : Int := if isSysB v xs = true then (if fullB v xs = true then 0 else 5) else 1

/-! A search that ends when enough is found. -/
def takeB (found : List (List Int)) (most : Nat) (Ls : List (List Int)) : List (List Int) := found ++ Ls.take (most - found.length)
theorem take_nil (found : List (List Int)) (most : Nat) : takeB found most [] = found := by simp [takeB]
theorem take_full {found : List (List Int)} {most : Nat} (h : most ≤ found.length) (Ls : List (List Int)) : takeB found most Ls = found := by
  unfold takeB
  have : most - found.length = 0 := by omega
  rw [this]; simp
theorem take_app (found : List (List Int)) (most : Nat) (A B : List (List Int)) : takeB found most (A ++ B) = takeB (takeB found most A) most B := by
  unfold takeB
  rw [List.take_append, List.append_assoc]
  congr 2
  rw [List.length_append, List.length_take]
  by_cases h : A.length ≤ most - found.length
  · rw [Nat.min_eq_right h]; congr 1; omega
  · have h1 : most - found.length - A.length = 0 := by omega
    have h2 : most - (found.length + min (most - found.length) A.length) = 0 := by omega
    rw [h1, h2]
theorem take_one {found : List (List Int)} {most : Nat} (h : found.length < most) (L : List Int) : takeB found most [L] = found ++ [L] := by
  unfold takeB
  rw [List.take_of_length_le (by simp; omega)]
theorem take_len {found : List (List Int)} {most : Nat} (h : found.length ≤ most) (Ls : List (List Int)) : (takeB found most Ls).length ≤ most := by
  unfold takeB; rw [List.length_append, List.length_take]; omega
/-! A search that calls each one until it says no. -/
def runE (cont : List (List Int) → Bool) : List (List Int) → List (List Int) → List (List Int) × Bool
  | [], C => (C, true)
  | L :: Ls, C => if cont (C ++ [L]) = true then runE cont Ls (C ++ [L]) else (C ++ [L], false)
theorem runE_app (cont : List (List Int) → Bool) : ∀ A B C, runE cont (A ++ B) C = if (runE cont A C).2 = true then runE cont B (runE cont A C).1 else runE cont A C := by
  intro A
  induction A with
  | nil => intro B C; simp [runE]
  | cons L A ih =>
    intro B C
    rw [List.cons_append, runE, runE]
    by_cases h : cont (C ++ [L]) = true
    · rw [if_pos h, if_pos h, ih]
    · rw [if_neg h, if_neg h]; simp
theorem runE_all {cont : List (List Int) → Bool} (h : ∀ C, cont C = true) : ∀ A C, runE cont A C = (C ++ A, true) := by
  intro A
  induction A with
  | nil => intro C; simp [runE]
  | cons L A ih => intro C; rw [runE, if_pos (h _), ih]; simp
/-- a search with a stop, seen from a loop -/
theorem runE_stop {cont : List (List Int) → Bool} {f : Nat → List (List Int)} {p : Nat → Bool} {C D : List (List Int)} {k : Nat} (e : runE cont (loopL f p 0 k) C = (D, false)) : ∀ n, k ≤ n → runE cont (loopL f p 0 n) C = (D, false) := by
  intro n
  induction n with
  | zero => intro h; obtain rfl : k = 0 := by omega
            exact e
  | succ n ih =>
    intro h
    by_cases hk : k = n + 1
    · subst hk; exact e
    · rw [loopL, runE_app, ih (by omega)]; simp
theorem take_stop {f : Nat → List (List Int)} {p : Nat → Bool} {F D : List (List Int)} {most k : Nat} (e : takeB F most (loopL f p 0 k) = D) (hD : most ≤ D.length) : ∀ n, k ≤ n → takeB F most (loopL f p 0 n) = D := by
  intro n
  induction n with
  | zero => intro h; obtain rfl : k = 0 := by omega
            exact e
  | succ n ih =>
    intro h
    by_cases hk : k = n + 1
    · subst hk; exact e
    · rw [loopL, take_app, ih (by omega), take_full hD]
/-- does a renumbering go around -/
def roundFrom (L : List Int) : Nat → Int → Int
  | 0, at_ => at_
  | k + 1, at_ => roundFrom L k (nthI L at_.toNat)

end Go.Proofs.Ytabgmjakkgalgaa
