/- Plain definitions: blocks, systems; no program in sight. Conditions: none. -/
import Derived.Handy
namespace Go.Proofs.Ytpdkkbimhhhjmaa

abbrev Blk := Int × Int × Int
def nth (bs : List Blk) (k : Nat) : Blk := bs.getD k (0, 0, 0)

def goodB (v : Int) (b : Blk) : Bool := decide (0 ≤ b.1 ∧ b.1 < b.2.1 ∧ b.2.1 < b.2.2 ∧ b.2.2 < v)
def befB (a b : Blk) : Bool := decide (a.1 < b.1 ∨ a.1 = b.1 ∧ (a.2.1 < b.2.1 ∨ a.2.1 = b.2.1 ∧ a.2.2 < b.2.2))
def eqB (a b : Blk) : Bool := decide (a = b)
def hasB (b : Blk) (p : Int) : Bool := decide (b.1 = p ∨ b.2.1 = p ∨ b.2.2 = p)
def one (b : Bool) : Int := if b then 1 else 0
/-- how often a number of one block is one of the other -/
def comI (a b : Blk) : Int :=
  one (a.1 == b.1) + one (a.1 == b.2.1) + one (a.1 == b.2.2) + (one (a.2.1 == b.1) + one (a.2.1 == b.2.1) + one (a.2.1 == b.2.2)) + (one (a.2.2 == b.1) + one (a.2.2 == b.2.1) + one (a.2.2 == b.2.2))

def fits (bs : List Blk) : Prop := ∀ i, i < bs.length → ∀ k, k < i → comI (nth bs i) (nth bs k) ≤ 1
def areB (v : Int) (bs : List Blk) : Prop := ∀ k, k < bs.length → goodB v (nth bs k) = true ∧ (0 < k → befB (nth bs (k - 1)) (nth bs k) = true)
def isSys (v : Int) (bs : List Blk) : Prop := (3 ≤ v ∧ v ≤ 15) ∧ bs.length ≤ 35 ∧ areB v bs ∧ fits bs
noncomputable def fitsB (bs : List Blk) : Bool := open Classical in decide (fits bs)
noncomputable def isSysB (v : Int) (bs : List Blk) : Bool := open Classical in decide (isSys v bs)
theorem fitsB_iff {bs : List Blk} : fitsB bs = true ↔ fits bs := by unfold fitsB; simp
theorem isSysB_iff {v : Int} {bs : List Blk} : isSysB v bs = true ↔ isSys v bs := by unfold isSysB; simp
theorem fitsB_false {bs : List Blk} (h : ¬ fits bs) : fitsB bs = false := by unfold fitsB; simp [h]
theorem isSysB_false {v : Int} {bs : List Blk} (h : ¬ isSys v bs) : isSysB v bs = false := by unfold isSysB; simp [h]
theorem fitsB_true {bs : List Blk} (h : fits bs) : fitsB bs = true := by unfold fitsB; simp [h]
theorem isSysB_true {v : Int} {bs : List Blk} (h : isSys v bs) : isSysB v bs = true := by unfold isSysB; simp [h]

theorem one_bd (b : Bool) : 0 ≤ one b ∧ one b ≤ 1 := by cases b <;> simp [one]
theorem comI_bd (a b : Blk) : 0 ≤ comI a b ∧ comI a b ≤ 9 := by
  unfold comI
  have := one_bd (a.1 == b.1); have := one_bd (a.1 == b.2.1); have := one_bd (a.1 == b.2.2)
  have := one_bd (a.2.1 == b.1); have := one_bd (a.2.1 == b.2.1); have := one_bd (a.2.1 == b.2.2)
  have := one_bd (a.2.2 == b.1); have := one_bd (a.2.2 == b.2.1); have := one_bd (a.2.2 == b.2.2)
  omega

def cmpI (a b : Int) : Int := if a < b then -1 else if b < a then 1 else 0
def cmpB (a b : Blk) : Int := if a.1 < b.1 then -1 else if b.1 < a.1 then 1 else if a.2.1 < b.2.1 then -1 else if b.2.1 < a.2.1 then 1 else if a.2.2 < b.2.2 then -1 else if b.2.2 < a.2.2 then 1 else 0
theorem cmpB_bef (a b : Blk) : decide (cmpB a b ≥ 0) = !befB a b := by
  unfold cmpB befB
  rw [Bool.eq_iff_iff]
  simp only [decide_eq_true_eq, Bool.not_eq_true', decide_eq_false_iff_not]
  (repeat' split) <;> omega
theorem cmpB_bd (a b : Blk) : -1 ≤ cmpB a b ∧ cmpB a b ≤ 1 := by
  unfold cmpB; (repeat' split) <;> omega

/-- a block's number at a place -/
def el (b : Blk) (i : Nat) : Int := if i = 0 then b.1 else if i = 1 then b.2.1 else b.2.2
/-- 'comI' after n of the nine tests -/
def comN (a b : Blk) : Nat → Int
  | 0 => 0
  | n + 1 => comN a b n + one (el a (n / 3) == el b (n % 3))
theorem comN_nine (a b : Blk) : comN a b 9 = comI a b := by
  simp only [comN, comI, el]; simp only [Nat.reduceDiv, Nat.reduceMod, Nat.zero_div, Nat.zero_mod, if_true, Nat.reduceEqDiff, if_false, Nat.one_ne_zero]; omega
theorem comN_bd (a b : Blk) (n : Nat) : 0 ≤ comN a b n ∧ comN a b n ≤ n := by
  induction n with
  | zero => simp [comN]
  | succ n ih => have := one_bd (el a (n / 3) == el b (n % 3)); simp only [comN]; omega

theorem comN_step (a b : Blk) (k j : Nat) (hj : j < 3) : comN a b (3 * k + (j + 1)) = comN a b (3 * k + j) + one (el a k == el b j) := by
  show comN a b (3 * k + j + 1) = _
  rw [comN, show (3 * k + j) / 3 = k by omega, show (3 * k + j) % 3 = j by omega]

/-! lists of numbers -/
def nthI (xs : List Int) (k : Nat) : Int := xs.getD k 0
def risesI (xs : List Int) (n : Int) : Prop := ∀ k, k < xs.length → (0 ≤ nthI xs k ∧ nthI xs k ≤ n - 1) ∧ (0 < k → nthI xs (k - 1) < nthI xs k)
noncomputable def risesB (xs : List Int) (n : Int) : Bool := open Classical in decide (risesI xs n)
theorem risesB_iff {xs : List Int} {n : Int} : risesB xs n = true ↔ risesI xs n := by unfold risesB; simp
theorem risesB_true {xs : List Int} {n : Int} (h : risesI xs n) : risesB xs n = true := by unfold risesB; simp [h]
theorem risesB_false {xs : List Int} {n : Int} (h : ¬ risesI xs n) : risesB xs n = false := by unfold risesB; simp [h]
def cmpL : List Int → List Int → Int
  | [], [] => 0
  | [], _ :: _ => -1
  | _ :: _, [] => 1
  | x :: xs, y :: ys => if x < y then -1 else if y < x then 1 else cmpL xs ys
theorem cmpL_bd (xs : List Int) : ∀ ys, -1 ≤ cmpL xs ys ∧ cmpL xs ys ≤ 1 := by
  induction xs with
  | nil => intro ys; cases ys <;> simp [cmpL]
  | cons x xs ih => intro ys; cases ys with
    | nil => simp [cmpL]
    | cons y ys => have := ih ys; simp only [cmpL]; (repeat' split) <;> omega
theorem drop_cons {xs : List Int} {k : Nat} (h : k < xs.length) : xs.drop k = nthI xs k :: xs.drop (k + 1) := by
  rw [List.drop_eq_getElem_cons h]; simp [nthI, h]
def lst (b : Blk) : List Int := [b.1, b.2.1, b.2.2]
theorem lst_len (b : Blk) : (lst b).length = 3 := rfl
theorem lst_nth (b : Blk) (i : Nat) (h : i < 3) : nthI (lst b) i = el b i := by
  obtain rfl | rfl | rfl : i = 0 ∨ i = 1 ∨ i = 2 := by omega
  all_goals rfl
theorem cmpL_lst (a b : Blk) : cmpL (lst a) (lst b) = cmpB a b := rfl
theorem risesB_lst (b : Blk) (v : Int) : risesB (lst b) v = goodB v b := by
  rw [Bool.eq_iff_iff, risesB_iff]
  unfold risesI goodB
  simp only [decide_eq_true_eq]
  constructor
  · intro h
    have h0 := h 0 (by simp [lst]); have h1 := h 1 (by simp [lst]); have h2 := h 2 (by simp [lst])
    simp [nthI, lst] at h0 h1 h2
    omega
  · intro h k hk
    have hk : k < 3 := hk
    obtain rfl | rfl | rfl : k = 0 ∨ k = 1 ∨ k = 2 := by omega
    all_goals simp [nthI, lst]; omega

/-- the first place of a number in a list from a place on, or -1 -/
def idxFrom (xs : List Int) (x : Int) : Nat → Nat → Int
  | 0, _ => -1
  | n + 1, k => if x = nthI xs k then k else idxFrom xs x n (k + 1)
def idxI (xs : List Int) (x : Int) : Int := idxFrom xs x xs.length 0
theorem idxFrom_bd (xs : List Int) (x : Int) : ∀ n k, -1 ≤ idxFrom xs x n k ∧ idxFrom xs x n k < k + n + 1 := by
  intro n
  induction n with
  | zero => intro k; simp [idxFrom]; omega
  | succ n ih => intro k; have := ih (k + 1); simp only [idxFrom]; split <;> omega

/-- the numbers of the blocks that are such, among the first k -/
def numsN (p : Blk → Bool) (bs : List Blk) : Nat → List Int
  | 0 => []
  | k + 1 => numsN p bs k ++ (if p (nth bs k) then [(k : Int)] else [])
def nums (p : Blk → Bool) (bs : List Blk) : List Int := numsN p bs bs.length
theorem numsN_len (p : Blk → Bool) (bs : List Blk) (k : Nat) : (numsN p bs k).length ≤ k := by
  induction k with
  | zero => simp [numsN]
  | succ k ih => simp only [numsN]; split <;> simp <;> omega
def meetB (a b : Blk) : Bool := hasB b a.1 || hasB b a.2.1 || hasB b a.2.2

end Go.Proofs.Ytpdkkbimhhhjmaa
