/- Plain laws and contracts, part 5; conditions: stated in each. -/
import Derived.Laws.MakeOwn
import Derived.Test.YtbknpflbafjblaaB1
import Derived.Test.YtbknpflbafjblaaB2
import Derived.Test.YtbknpflbafjblaaB3
set_option linter.unusedSimpArgs false
set_option linter.unusedVariables false
/- Plain laws of the rank of rows modulo 2 or 3. Conditions: stated in each. -/
namespace Go.Proofs.Ytbknpflbafjblaa

def swpX (X : Nat → Nat → Int) (r b : Nat) : Nat → Nat → Int := fun i => if i = r then X b else if i = b then X r else X i
def stpX (p : Int) (X : Nat → Nat → Int) (r c : Nat) : Nat → Nat → Int := fun i k => if r < i then (X i k - X i c * X r c * X r k) % p else X i k
/-- the first row from i on, of f tries, with a number other than 0 in a column -/
def pvN (X : Nat → Nat → Int) (c : Nat) : Nat → Nat → Nat
  | 0, i => i
  | f + 1, i => if X i c = 0 then pvN X c f (i + 1) else i
theorem pvN_spec (X : Nat → Nat → Int) (c : Nat) : ∀ f i, i ≤ pvN X c f i ∧ pvN X c f i ≤ i + f ∧ (pvN X c f i < i + f → X (pvN X c f i) c ≠ 0) ∧ ∀ j, i ≤ j → j < pvN X c f i → X j c = 0 := by
  intro f
  induction f with
  | zero => intro i; refine ⟨Nat.le_refl _, Nat.le_refl _, fun h => ?_, fun j h1 h2 => ?_⟩ <;> simp [pvN] at * <;> omega
  | succ f ih =>
    intro i
    rw [pvN]
    by_cases h : X i c = 0
    · rw [if_pos h]
      obtain ⟨h1, h2, h3, h4⟩ := ih (i + 1)
      refine ⟨by omega, by omega, fun h5 => h3 (by omega), fun j hj hj2 => ?_⟩
      by_cases e : j = i
      · rw [e]; exact h
      · exact h4 j (by omega) hj2
    · rw [if_neg h]
      exact ⟨Nat.le_refl _, by omega, fun _ => h, fun j h1 h2 => by omega⟩
theorem pvN_is {X : Nat → Nat → Int} {c f i b : Nat} (h1 : i ≤ b) (h2 : b ≤ i + f) (h3 : b < i + f → X b c ≠ 0) (h4 : ∀ j, i ≤ j → j < b → X j c = 0) : pvN X c f i = b := by
  obtain ⟨a1, a2, a3, a4⟩ := pvN_spec X c f i
  rcases Nat.lt_trichotomy (pvN X c f i) b with h | h | h
  · exact absurd (h4 _ a1 h) (a3 (by omega))
  · exact h
  · exact absurd (a4 b h1 h) (h3 (by omega))
/-- the rows and the rank behind the first c columns -/
def rkS (p : Int) (m : Nat) (X : Nat → Nat → Int) : Nat → (Nat → Nat → Int) × Nat
  | 0 => (X, 0)
  | c + 1 => if pvN (rkS p m X c).1 c (m - (rkS p m X c).2) (rkS p m X c).2 < m then (stpX p (swpX (rkS p m X c).1 (rkS p m X c).2 (pvN (rkS p m X c).1 c (m - (rkS p m X c).2) (rkS p m X c).2)) (rkS p m X c).2 c, (rkS p m X c).2 + 1) else rkS p m X c
/-- what is known of the rows -/
structure GdX (p : Int) (m v r c : Nat) (X : Nat → Nat → Int) : Prop where
  rle : r ≤ m
  rng : ∀ i, i < m → ∀ k, k < v → 0 ≤ X i k ∧ X i k < p
  zer : ∀ i, r ≤ i → i < m → ∀ k, k < c → X i k = 0
theorem GdX.skip {p : Int} {m v r c : Nat} {X : Nat → Nat → Int} (h : GdX p m v r c X) (hz : ∀ i, r ≤ i → i < m → X i c = 0) : GdX p m v r (c + 1) X :=
  ⟨h.rle, h.rng, fun i h1 h2 k hk => by
    by_cases e : k = c
    · rw [e]; exact hz i h1 h2
    · exact h.zer i h1 h2 k (by omega)⟩
theorem GdX.swp {p : Int} {m v r c b : Nat} {X : Nat → Nat → Int} (h : GdX p m v r c X) (hr : r ≤ b) (hb : b < m) : GdX p m v r c (swpX X r b) := by
  have key : ∀ i, i < m → ∃ j, j < m ∧ (r ≤ i → r ≤ j) ∧ swpX X r b i = X j := by
    intro i hi
    unfold swpX
    by_cases e1 : i = r
    · exact ⟨b, hb, fun _ => hr, by rw [if_pos e1]⟩
    · rw [if_neg e1]
      by_cases e2 : i = b
      · exact ⟨r, by omega, fun _ => Nat.le_refl _, by rw [if_pos e2]⟩
      · exact ⟨i, hi, fun h => h, by rw [if_neg e2]⟩
  refine ⟨h.rle, fun i hi k hk => ?_, fun i h1 h2 k hk => ?_⟩
  · obtain ⟨j, hj, _, e⟩ := key i hi
    rw [e]; exact h.rng j hj k hk
  · obtain ⟨j, hj, h3, e⟩ := key i h2
    rw [e]; exact h.zer j (h3 h1) hj k hk
theorem GdX.stp {p : Int} {m v r c : Nat} {X : Nat → Nat → Int} (hp : p = 2 ∨ p = 3) (h : GdX p m v r c X) (hr : r < m) (hc : c < v) (hne : X r c ≠ 0) : GdX p m v (r + 1) (c + 1) (stpX p X r c) := by
  refine ⟨hr, fun i hi k hk => ?_, fun i h1 h2 k hk => ?_⟩
  · unfold stpX
    split
    · rcases hp with rfl | rfl <;> omega
    · exact h.rng i hi k hk
  · unfold stpX
    rw [if_pos (by omega)]
    by_cases e : k = c
    · subst e
      have h3 := h.rng r hr k hc
      have h4 := h.rng i h2 k hc
      generalize X i k = a at *
      generalize X r k = e at *
      have h5 : e = 1 ∨ e = 2 := by rcases hp with rfl | rfl <;> omega
      rcases h5 with rfl | rfl
      · have : a - a * 1 * 1 = 0 := by omega
        rw [this]; simp
      · have : p = 3 := by rcases hp with rfl | rfl <;> omega
        subst this
        have : a - a * 2 * 2 = 3 * (-a) := by omega
        rw [this]; omega
    · rw [h.zer i (by omega) h2 k (by omega), h.zer r (Nat.le_refl _) hr k (by omega)]
      simp
theorem rk_good {p : Int} {m v : Nat} {X : Nat → Nat → Int} (hp : p = 2 ∨ p = 3) (h0 : ∀ i, i < m → ∀ k, k < v → 0 ≤ X i k ∧ X i k < p) : ∀ c, c ≤ v → GdX p m v (rkS p m X c).2 c (rkS p m X c).1 := by
  intro c
  induction c with
  | zero => intro _; exact ⟨Nat.zero_le _, h0, fun i _ _ k hk => by omega⟩
  | succ c ih =>
    intro hc
    have h := ih (by omega)
    rw [rkS]
    have hs := pvN_spec (rkS p m X c).1 c (m - (rkS p m X c).2) (rkS p m X c).2
    have hrm := h.rle
    generalize pvN (rkS p m X c).1 c (m - (rkS p m X c).2) (rkS p m X c).2 = b at *
    by_cases hb : b < m
    · rw [if_pos hb]
      refine (h.swp hs.1 hb).stp hp (by omega) (by omega) ?_
      unfold swpX
      rw [if_pos rfl]
      exact hs.2.2.1 (by omega)
    · rw [if_neg hb]
      exact h.skip fun i h1 h2 => hs.2.2.2 i h1 (by omega)
/-- what the program writes is what the reference writes -/
theorem mod_impl {p x : Int} (hp : p = 2 ∨ p = 3) (h1 : -8 ≤ x) (h2 : x ≤ 8) : (x.tmod p + p).tmod p = x % p := by
  have key : ∀ q : Fin 17, (((q.val : Int) - 8).tmod 2 + 2).tmod 2 = ((q.val : Int) - 8) % 2 ∧ (((q.val : Int) - 8).tmod 3 + 3).tmod 3 = ((q.val : Int) - 8) % 3 := by decide
  have h := key ⟨(x + 8).toNat, by omega⟩
  have e : (((⟨(x + 8).toNat, by omega⟩ : Fin 17).val : Int) - 8) = x := by simp only; omega
  rw [e] at h
  rcases hp with rfl | rfl
  · exact h.1
  · exact h.2
theorem mod_spec {p a b t : Int} (hp : p = 2 ∨ p = 3) (ha : 0 ≤ a ∧ a < p) (hb : 0 ≤ b ∧ b < p) (ht : 0 ≤ t ∧ t ≤ 4) : (a + (p - t.tmod p) * b).tmod p = (a - t * b) % p := by
  have hb3 : b = 0 ∨ b = 1 ∨ b = 2 := by rcases hp with rfl | rfl <;> omega
  have ht5 : t = 0 ∨ t = 1 ∨ t = 2 ∨ t = 3 ∨ t = 4 := by omega
  have ha3 : a = 0 ∨ a = 1 ∨ a = 2 := by rcases hp with rfl | rfl <;> omega
  rcases hp with rfl | rfl <;> rcases hb3 with rfl | rfl | rfl <;> rcases ht5 with rfl | rfl | rfl | rfl | rfl <;> rcases ha3 with rfl | rfl | rfl <;> first | rfl | decide | omega
theorem mul_bds {p a b : Int} (hp : p = 2 ∨ p = 3) (ha : 0 ≤ a ∧ a < p) (hb : 0 ≤ b ∧ b < p) : 0 ≤ a * b ∧ a * b ≤ 4 := by
  have hb3 : b = 0 ∨ b = 1 ∨ b = 2 := by rcases hp with rfl | rfl <;> omega
  have ha3 : a = 0 ∨ a = 1 ∨ a = 2 := by rcases hp with rfl | rfl <;> omega
  rcases hb3 with rfl | rfl | rfl <;> rcases ha3 with rfl | rfl | rfl <;> decide
theorem imp_vals {p x t z : Int} (hp : p = 2 ∨ p = 3) (hx : 0 ≤ x ∧ x < p) (hz : 0 ≤ z ∧ z < p) (ht : 0 ≤ t ∧ t ≤ 4) : ∃ e f g : Int, t * z = e ∧ (x - e).tmod p = f ∧ (f + p).tmod p = g ∧ (0 ≤ e ∧ e ≤ 8) ∧ (-3 ≤ f ∧ f ≤ 3) ∧ (0 ≤ g ∧ g ≤ 3) ∧ g = (x - t * z) % p := by
  have hz3 : z = 0 ∨ z = 1 ∨ z = 2 := by rcases hp with rfl | rfl <;> omega
  have he : 0 ≤ t * z ∧ t * z ≤ 8 := by rcases hz3 with rfl | rfl | rfl <;> omega
  have hm := mod_impl (x := x - t * z) hp (by omega) (by rcases hp with rfl | rfl <;> omega)
  have hf : -3 ≤ (x - t * z).tmod p ∧ (x - t * z).tmod p ≤ 3 := by
    have key : ∀ q : Fin 17, (-3 ≤ ((q.val : Int) - 8).tmod 2 ∧ ((q.val : Int) - 8).tmod 2 ≤ 3) ∧ (-3 ≤ ((q.val : Int) - 8).tmod 3 ∧ ((q.val : Int) - 8).tmod 3 ≤ 3) := by decide
    have hb : -8 ≤ x - t * z ∧ x - t * z ≤ 8 := by rcases hp with rfl | rfl <;> omega
    have h := key ⟨(x - t * z + 8).toNat, by omega⟩
    have e : (((⟨(x - t * z + 8).toNat, by omega⟩ : Fin 17).val : Int) - 8) = x - t * z := by simp only; omega
    rw [e] at h
    rcases hp with rfl | rfl
    · exact h.1
    · exact h.2
  refine ⟨_, _, _, rfl, rfl, rfl, he, hf, ?_, hm⟩
  rw [hm]
  rcases hp with rfl | rfl <;> omega
theorem spec_vals {p x y z : Int} (hp : p = 2 ∨ p = 3) (hx : 0 ≤ x ∧ x < p) (hz : 0 ≤ z ∧ z < p) (hy : 0 ≤ y ∧ y ≤ 4) : ∃ t e g : Int, y.tmod p = t ∧ (p - t) * z = e ∧ (x + e).tmod p = g ∧ (0 ≤ t ∧ t ≤ 2) ∧ (0 ≤ e ∧ e ≤ 9) ∧ (0 ≤ g ∧ g ≤ 3) ∧ g = (x - y * z) % p := by
  have hm := mod_spec (a := x) (b := z) (t := y) hp hx hz hy
  have ht : 0 ≤ y.tmod p ∧ y.tmod p ≤ 2 ∧ y.tmod p < p := by
    have h5 : y = 0 ∨ y = 1 ∨ y = 2 ∨ y = 3 ∨ y = 4 := by omega
    rcases hp with rfl | rfl <;> rcases h5 with rfl | rfl | rfl | rfl | rfl <;> decide
  have hz3 : z = 0 ∨ z = 1 ∨ z = 2 := by rcases hp with rfl | rfl <;> omega
  refine ⟨_, _, _, rfl, rfl, rfl, ⟨ht.1, ht.2.1⟩, ?_, ?_, hm⟩
  · rcases hz3 with rfl | rfl | rfl <;> rcases hp with rfl | rfl <;> omega
  · rw [hm]; rcases hp with rfl | rfl <;> omega
/-- the elimination under way: rows below r up to r + i done, row r + 1 + i up to column j -/
def inX (p : Int) (X : Nat → Nat → Int) (r c i j : Nat) : Nat → Nat → Int := fun a k => if r < a ∧ (a < r + 1 + i ∨ a = r + 1 + i ∧ k < j) then stpX p X r c a k else X a k
theorem inX_r (p : Int) (X : Nat → Nat → Int) (r c i j k : Nat) : inX p X r c i j r k = X r k := by unfold inX; rw [if_neg (by omega)]
theorem inX_a (p : Int) (X : Nat → Nat → Int) (r c i j k : Nat) (h : j ≤ k) : inX p X r c i j (r + 1 + i) k = X (r + 1 + i) k := by unfold inX; rw [if_neg (by omega)]
theorem inX_0 (p : Int) (X : Nat → Nat → Int) (r c a k : Nat) : X a k = inX p X r c 0 0 a k := by unfold inX; rw [if_neg (by omega)]
theorem inX_v (p : Int) (X : Nat → Nat → Int) (r c i v a k : Nat) (h : k < v) : inX p X r c i v a k = inX p X r c (i + 1) 0 a k := by
  unfold inX
  by_cases e : r < a ∧ (a < r + 1 + i ∨ a = r + 1 + i ∧ k < v)
  · rw [if_pos e, if_pos (by omega)]
  · rw [if_neg e, if_neg (by omega)]
theorem inX_s (p : Int) (X : Nat → Nat → Int) (r c i j a k : Nat) : (if a = r + 1 + i then upd (inX p X r c i j (r + 1 + i)) j ((X (r + 1 + i) j - X (r + 1 + i) c * X r c * X r j) % p) else inX p X r c i j a) k = inX p X r c i (j + 1) a k := by
  by_cases ha : a = r + 1 + i
  · subst ha
    rw [if_pos rfl, upd]
    by_cases hk : k = j
    · subst hk
      rw [if_pos rfl]
      unfold inX stpX; rw [if_pos (by omega), if_pos (by omega)]
    · rw [if_neg hk]
      unfold inX
      by_cases e : k < j
      · rw [if_pos (by omega), if_pos (by omega)]
      · rw [if_neg (by omega), if_neg (by omega)]
  · rw [if_neg ha]
    unfold inX
    by_cases e : r < a ∧ a < r + 1 + i
    · rw [if_pos (by omega), if_pos (by omega)]
    · rw [if_neg (by omega), if_neg (by omega)]
theorem inX_m (p : Int) (X : Nat → Nat → Int) (r c m a k : Nat) (h : a < m) (hr : r < m) : inX p X r c (m - (r + 1)) 0 a k = stpX p X r c a k := by
  unfold inX
  by_cases e : r < a
  · rw [if_pos (by omega)]
  · rw [if_neg (by omega)]; unfold stpX; rw [if_neg e]
theorem inX_c {p : Int} {m v r c : Nat} {X : Nat → Nat → Int} (h : GdX p m v r c X) (hr : r < m) (i : Nat) (hi : r + 1 + i < m) (a k : Nat) : inX p X r c i 0 a k = inX p X r c i c a k := by
  unfold inX
  by_cases e : a = r + 1 + i ∧ k < c
  · obtain ⟨rfl, hk⟩ := e
    rw [if_neg (by omega), if_pos (by omega)]
    unfold stpX
    rw [if_pos (by omega), h.zer r (Nat.le_refl _) hr k hk, h.zer (r + 1 + i) (by omega) hi k hk]
    simp
  · by_cases e2 : r < a ∧ a < r + 1 + i
    · rw [if_pos (by omega), if_pos (by omega)]
    · rw [if_neg (by omega), if_neg (by omega)]
/-- the rows of blocks -/
def rowG (b : Blk) : Nat → (Nat → Int)
  | 0 => fun _ => 0
  | j + 1 => upd (rowG b j) (el b j).toNat 1
def rowX (xs : List Blk) : Nat → Nat → Int := fun i => rowG (nth xs i) 3
theorem rowG_rng (b : Blk) : ∀ j k, 0 ≤ rowG b j k ∧ rowG b j k < 2 := by
  intro j
  induction j with
  | zero => intro k; simp [rowG]
  | succ j ih => intro k; rw [rowG, upd]; split
                 · omega
                 · exact ih k
noncomputable def rnkR (v : Int) (xs : List Blk) (p : Int) : Int × Int := if isSysB v xs = true then (if 2 ≤ p ∧ p ≤ 3 then (((rkS p xs.length (rowX xs) v.toNat).2 : Nat), 0) else (0, 2)) else (0, 1)

end Go.Proofs.Ytbknpflbafjblaa

/- Rows of numbers, with a row of their headers, that a call makes, writes and swaps; conditions: none. -/
namespace Go.Proofs.Ytbknpflbafjblaa
open Go.RowKit
set_option linter.unusedSimpArgs false
set_option linter.unusedVariables false

/-- block gu holds the headers of m rows of v numbers each, row i in block P i, all in different blocks from B on -/
def Mx (w : World) (B gu m v : Nat) (P : Nat → Nat) (X : Nat → Nat → Int) : Prop :=
  (∃ cur, Row w gu 42 cur ∧ ∀ i, i < m → cur[i]? = some (.slice (some ⟨P i, 0, none⟩) v v)) ∧ (∀ i, i < m → Va w (P i) v (X i)) ∧ (∀ i, i < m → P i ≠ gu ∧ B ≤ P i) ∧ (∀ i j, i < m → j < m → i ≠ j → P i ≠ P j) ∧ B ≤ gu
theorem Mx.head {w : World} {B gu m v : Nat} {P : Nat → Nat} {X : Nat → Nat → Int} (h : Mx w B gu m v P X) {i : Nat} (hi : i < m) : w.cell? ⟨gu, i, none⟩ = some (.slice (some ⟨P i, 0, none⟩) v v) ∧ gu < w.heap.size ∧ w.frozen? ⟨gu, i, none⟩ = false := by
  obtain ⟨⟨cur, h1, h2⟩, _⟩ := h
  exact ⟨(Row.cell h1 i).trans (h2 i hi), h1.lt, h1.frozen i⟩
theorem Mx.cell {w : World} {B gu m v : Nat} {P : Nat → Nat} {X : Nat → Nat → Int} (h : Mx w B gu m v P X) {i j : Nat} (hi : i < m) (hj : j < v) : w.cell? ⟨P i, j, none⟩ = some (.int .i64 (X i j)) ∧ P i < w.heap.size ∧ w.frozen? ⟨P i, j, none⟩ = false :=
  ⟨(h.2.1 i hi).cell hj, (h.2.1 i hi).lt, (h.2.1 i hi).frozen j⟩
theorem Mx.head2 {w : World} {B gu m v : Nat} {P : Nat → Nat} {X : Nat → Nat → Int} (h : Mx w B gu m v P X) {i j : Nat} (hj : j < m) : (w.setCell ⟨gu, i, none⟩ (.slice (some ⟨P j, 0, none⟩) v v)).cell? ⟨gu, j, none⟩ = some (.slice (some ⟨P j, 0, none⟩) v v) ∧ (w.setCell ⟨gu, i, none⟩ (.slice (some ⟨P j, 0, none⟩) v v)).frozen? ⟨gu, j, none⟩ = false := by
  obtain ⟨⟨cur, h1, h2⟩, _⟩ := h
  have h3 := h1.set i (Value.slice (some ⟨P j, 0, none⟩) v v)
  refine ⟨(Row.cell h3 j).trans ?_, h3.frozen j⟩
  rw [Array.getElem?_setIfInBounds]
  have h4 := h2 j hj
  by_cases e : i = j
  · subst e
    have hs : i < cur.size := by
      rcases Nat.lt_or_ge i cur.size with h | h
      · exact h
      · rw [Array.getElem?_eq_none h] at h4; cases h4
    rw [if_pos rfl, if_pos hs]
  · rw [if_neg e]; exact h4
theorem Mx.below {w w' : World} {B gu m v : Nat} {P : Nat → Nat} {X : Nat → Nat → Int} (h : Mx w B gu m v P X) (hb : Below w.heap.size w w') : Mx w' B gu m v P X := by
  obtain ⟨⟨cur, h1, h2⟩, h3, h4⟩ := h
  exact ⟨⟨cur, h1.below hb, h2⟩, fun i hi => (h3 i hi).below hb, h4⟩
theorem Mx.congr {w : World} {B gu m v : Nat} {P : Nat → Nat} {X Y : Nat → Nat → Int} (h : Mx w B gu m v P X) (e : ∀ i, i < m → ∀ k, k < v → X i k = Y i k) : Mx w B gu m v P Y :=
  ⟨h.1, fun i hi => (h.2.1 i hi).ext (e i hi), h.2.2⟩
def upd2 (X : Nat → Nat → Int) (i j : Nat) (x : Int) : Nat → Nat → Int := fun a => if a = i then upd (X i) j x else X a
theorem Mx.put {w : World} {B gu m v : Nat} {P : Nat → Nat} {X : Nat → Nat → Int} (h : Mx w B gu m v P X) {i : Nat} (hi : i < m) (j : Nat) (x : Int) : Mx (w.setCell ⟨P i, j, none⟩ (.int .i64 x)) B gu m v P (upd2 X i j x) := by
  obtain ⟨⟨cur, h1, h2⟩, h3, h4, h5, h6⟩ := h
  refine ⟨⟨cur, h1.far (h4 i hi).1 _, h2⟩, fun a ha => ?_, h4, h5, h6⟩
  by_cases e : a = i
  · subst e
    unfold upd2; rw [if_pos rfl]
    exact (h3 a ha).set j x
  · unfold upd2; rw [if_neg e]
    exact Row.far (h3 a ha) (fun e2 => h5 a i ha hi e e2.symm) _
theorem Mx.swap {w : World} {B gu m v : Nat} {P : Nat → Nat} {X : Nat → Nat → Int} (h : Mx w B gu m v P X) {r b i j : Nat} (hr : r < m) (hb : b < m) (hij : i = r ∧ j = b ∨ i = b ∧ j = r) :
    ∃ Q, Mx ((w.setCell ⟨gu, i, none⟩ (.slice (some ⟨P j, 0, none⟩) v v)).setCell ⟨gu, j, none⟩ (.slice (some ⟨P i, 0, none⟩) v v)) B gu m v Q (swpX X r b) ∧ (∀ a, a < m → ∃ b, b < m ∧ Q a = P b) ∧ Q j = P i := by
  have him : i < m := by omega
  have hjm : j < m := by omega
  obtain ⟨⟨cur, h1, h2⟩, h3, h4, h5, h6⟩ := h
  refine ⟨fun a => if a = i then P j else if a = j then P i else P a, ⟨⟨_, (h1.set i _).set j _, fun a ha => ?_⟩, fun a ha => ?_, fun a ha => ?_, fun a a' ha ha' hne => ?_, h6⟩, fun a ha => ?_, ?_⟩
  · have hs : ∀ a, a < m → a < cur.size := fun a ha => by
      rcases Nat.lt_or_ge a cur.size with h | h
      · exact h
      · have := h2 a ha; rw [Array.getElem?_eq_none h] at this; cases this
    rw [Array.getElem?_setIfInBounds, Array.getElem?_setIfInBounds, Array.size_setIfInBounds]
    dsimp only
    by_cases e1 : j = a
    · subst e1
      rw [if_pos rfl, if_pos (hs j ha)]
      by_cases e2 : j = i
      · rw [if_pos e2, e2]
      · rw [if_neg e2, if_pos rfl]
    · rw [if_neg e1]
      by_cases e2 : i = a
      · subst e2; rw [if_pos rfl, if_pos (hs i ha), if_pos rfl]
      · rw [if_neg e2, if_neg (fun e => e2 e.symm), if_neg (fun e => e1 e.symm)]; exact h2 a ha
  · have key : ∀ c, c < m → ∀ F, Va w (P c) v F → Va ((w.setCell ⟨gu, i, none⟩ (.slice (some ⟨P j, 0, none⟩) v v)).setCell ⟨gu, j, none⟩ (.slice (some ⟨P i, 0, none⟩) v v)) (P c) v F := fun c hc F hF => (Row.far (Row.far hF (h4 c hc).1.symm _) (h4 c hc).1.symm _)
    have hsw : swpX X r b a = X (if a = i then j else if a = j then i else a) := by
      unfold swpX
      rcases hij with ⟨rfl, rfl⟩ | ⟨rfl, rfl⟩
      · by_cases e1 : a = i
        · rw [if_pos e1, if_pos e1]
        · rw [if_neg e1, if_neg e1]
          by_cases e2 : a = j
          · rw [if_pos e2, if_pos e2]
          · rw [if_neg e2, if_neg e2]
      · by_cases e1 : a = j
        · rw [if_pos e1]
          by_cases e2 : a = i
          · rw [if_pos e2]; rw [← e1, ← e2]
          · rw [if_neg e2, if_pos e1]
        · rw [if_neg e1]
          by_cases e2 : a = i
          · rw [if_pos e2, if_pos e2]
          · rw [if_neg e2, if_neg e2, if_neg e1]
    rw [hsw]
    by_cases e1 : a = i
    · simp only [if_pos e1]; exact key j hjm _ (h3 j hjm)
    · simp only [if_neg e1]
      by_cases e2 : a = j
      · simp only [if_pos e2]; exact key i him _ (h3 i him)
      · simp only [if_neg e2]; exact key a ha _ (h3 a ha)
  · by_cases e1 : a = i
    · simp only [if_pos e1]; exact h4 j hjm
    · simp only [if_neg e1]
      by_cases e2 : a = j
      · simp only [if_pos e2]; exact h4 i him
      · simp only [if_neg e2]; exact h4 a ha
  · by_cases e1 : a = i
    · simp only [if_pos e1]
      by_cases f1 : a' = i
      · exact absurd (e1.trans f1.symm) hne
      · simp only [if_neg f1]
        by_cases f2 : a' = j
        · simp only [if_pos f2]; exact h5 j i hjm him (fun e => f1 (f2.trans e))
        · simp only [if_neg f2]; exact h5 j a' hjm ha' (fun e => f2 e.symm)
    · simp only [if_neg e1]
      by_cases e2 : a = j
      · simp only [if_pos e2]
        by_cases f1 : a' = i
        · simp only [if_pos f1]; exact h5 i j him hjm (fun e => e1 (e2.trans e.symm))
        · simp only [if_neg f1]
          by_cases f2 : a' = j
          · exact absurd (e2.trans f2.symm) hne
          · simp only [if_neg f2]; exact h5 i a' him ha' (fun e => f1 e.symm)
      · simp only [if_neg e2]
        by_cases f1 : a' = i
        · simp only [if_pos f1]; exact h5 a j ha hjm e2
        · simp only [if_neg f1]
          by_cases f2 : a' = j
          · simp only [if_pos f2]; exact h5 a i ha him e1
          · simp only [if_neg f2]; exact h5 a a' ha ha' hne
  · by_cases e1 : a = i
    · exact ⟨j, hjm, by simp only [if_pos e1]⟩
    · by_cases e2 : a = j
      · exact ⟨i, him, by simp only [if_neg e1, if_pos e2]⟩
      · exact ⟨a, ha, by simp only [if_neg e1, if_neg e2]⟩
  · by_cases e : j = i
    · simp only [if_pos e]; rw [e]
    · simp only [if_neg e, if_pos]

/-- .. being made: k headers in a row of the call's own -/
def Mb (w : World) (B : Nat) (u : Value) (k v : Nat) (P : Nat → Nat) (X : Nat → Nat → Int) : Prop :=
  w.ownsRow B 42 1 u k ((List.range k).map fun i => Value.slice (some ⟨P i, 0, none⟩) v v) ∧ (∀ i, i < k → Va w (P i) v (X i)) ∧ (∀ i, i < k → u.ownBlock ≠ some (P i) ∧ B ≤ P i) ∧ (∀ i j, i < k → j < k → i ≠ j → P i ≠ P j)
theorem Mb.below {w w' : World} {B k v : Nat} {u : Value} {P : Nat → Nat} {X : Nat → Nat → Int} (h : Mb w B u k v P X) (hb : Below w.heap.size w w') : Mb w' B u k v P X :=
  ⟨own_below h.1 hb, fun i hi => (h.2.1 i hi).below hb, h.2.2⟩
theorem Mb.nil (w : World) (B v : Nat) (X : Nat → Nat → Int) : Mb w B (.slice none 0 0) 0 v (fun _ => 0) X := ⟨World.ownsRow_nil _ _ _ _, fun i hi => by omega, fun i hi => by omega, fun i j hi => by omega⟩
theorem Mb.base {w : World} {B B' k v : Nat} {u : Value} {P : Nat → Nat} {X : Nat → Nat → Int} (h : Mb w B u k v P X) (hb : B' ≤ B) : Mb w B' u k v P X :=
  ⟨own_base h.1 hb, h.2.1, fun i hi => ⟨(h.2.2.1 i hi).1, Nat.le_trans hb (h.2.2.1 i hi).2⟩, h.2.2.2⟩
/-- one more row -/
theorem Mb.push {w w1 w2 : World} {B k v p : Nat} {u v2 : Value} {P : Nat → Nat} {X : Nat → Nat → Int} (h : Mb w B u k v P X) (hB : B ≤ p) (hp : w.heap.size ≤ p) (hb : Below w.heap.size w w1) (hr : Va w1 p v (X k)) (hg : w1.grownBy w2 u.ownBlock)
    (ho : w2.ownsRow B 42 1 v2 (k + 1) (((List.range k).map fun i => Value.slice (some ⟨P i, 0, none⟩) v v) ++ [.slice (some ⟨p, 0, none⟩) v v])) (hat : v2.ownBlock = u.ownBlock ∨ v2.ownBlock = some w1.heap.size) : ∃ Q, Mb w2 B v2 (k + 1) v Q X := by
  have hold : ∀ i, i < k → P i < w.heap.size := fun i hi => (h.2.1 i hi).lt
  have holdu : ∀ b, u.ownBlock = some b → b < w.heap.size := fun b e => (h.1.lt b e).2
  have hpl := hr.lt
  have keep : ∀ q F, Va w1 q v F → u.ownBlock ≠ some q → Va w2 q v F := fun q F hF hne => (hg.block q hF.lt (fun e => hne e.symm)).trans hF
  have nown : ∀ q, q < w1.heap.size → u.ownBlock ≠ some q → v2.ownBlock ≠ some q := by
    intro q hq hne
    rcases hat with e | e
    · rw [e]; exact hne
    · rw [e]; intro e2; simp only [Option.some.injEq] at e2; omega
  have hup : u.ownBlock ≠ some p := fun e => by have := holdu p e; omega
  have hsz := hb.size
  refine ⟨updA P k p, ?_, fun i hi => ?_, fun i hi => ?_, fun i j hi hj hne => ?_⟩
  · have e : (List.range (k + 1)).map (fun i => Value.slice (some ⟨updA P k p i, 0, none⟩) v v) = ((List.range k).map fun i => Value.slice (some ⟨P i, 0, none⟩) v v) ++ [.slice (some ⟨p, 0, none⟩) v v] := by
      rw [List.range_succ, List.map_append]
      congr 1
      · refine List.map_congr_left fun i hi => ?_
        rw [updA_ne _ _ (by have := List.mem_range.1 hi; omega)]
      · simp [updA_same]
    rw [e]; exact ho
  · by_cases e : i = k
    · subst e; rw [updA_same]; exact keep p _ hr hup
    · rw [updA_ne _ _ e]; exact keep _ _ ((h.2.1 i (by omega)).below hb) (h.2.2.1 i (by omega)).1
  · by_cases e : i = k
    · subst e; rw [updA_same]; exact ⟨nown p hpl hup, hB⟩
    · rw [updA_ne _ _ e]
      have h1 := h.2.2.1 i (by omega)
      exact ⟨nown _ (by have := hold i (by omega); omega) h1.1, h1.2⟩
  · by_cases e : i = k
    · subst e; rw [updA_same, updA_ne _ _ (Ne.symm hne)]
      have := hold j (by omega); omega
    · rw [updA_ne _ _ e]
      by_cases e2 : j = k
      · subst e2; rw [updA_same]; have := hold i (by omega); omega
      · rw [updA_ne _ _ e2]; exact h.2.2.2 i j (by omega) (by omega) hne
theorem Mb.mx {w : World} {B k v : Nat} {u : Value} {P : Nat → Nat} {X : Nat → Nat → Int} (h : Mb w B u k v P X) (hk : 0 < k) : ∃ gu d, u = .slice (some ⟨gu, 0, none⟩) k d ∧ k ≤ d ∧ Mx w B gu k v P X := by
  obtain ⟨h1, h2, h3, h4⟩ := h
  rcases h1.2 with ⟨_, h0⟩ | ⟨g, cap, cur, hv, hge, hg, hnc, hcm, hcs, htk⟩
  · omega
  · subst hv
    refine ⟨g, cap, rfl, hnc, ⟨cur, hg, fun i hi => ?_⟩, h2, fun i hi => ⟨fun e => (h3 i hi).1 (by rw [e]; rfl), (h3 i hi).2⟩, h4, hge⟩
    have h5 : ((List.range k).map fun i => Value.slice (some ⟨P i, 0, none⟩) v v)[i]? = some (.slice (some ⟨P i, 0, none⟩) v v) := by simp [hi]
    rw [← htk, List.getElem?_take_of_lt (by omega), Array.getElem?_toList] at h5
    exact h5

theorem Mb.zero {w : World} {B v : Nat} {u : Value} {P : Nat → Nat} {X : Nat → Nat → Int} (h : Mb w B u 0 v P X) : ∃ A d, u = .slice A 0 d ∧ (A = none ∧ d = 0 ∨ ∃ g, A = some ⟨g, 0, none⟩) ∧ d ≤ maxLen := by
  rcases h.1.2 with ⟨rfl, _⟩ | ⟨g, cap, cur, hv, hge, hg, hnc, hcm, hcs, htk⟩
  · exact ⟨none, 0, rfl, Or.inl ⟨rfl, rfl⟩, Nat.zero_le _⟩
  · exact ⟨_, cap, hv, Or.inr ⟨g, rfl⟩, hcm⟩

end Go.Proofs.Ytbknpflbafjblaa

/- Contracts of the rows of a system, of the reference and of the program; conditions: stated in each. -/
namespace Go.Proofs.Ytbknpflbafjblaa
open Go.RowKit
set_option maxHeartbeats 1000000
set_option maxRecDepth 100000
set_option linter.unusedSimpArgs false
set_option linter.unusedVariables false

theorem made_ints2 (n : Nat) : madeCells (Value.cells (.int .i64 0)) (n * 1) = icells n (fun _ => 0) := by
  apply Array.ext'
  simp [icells, madeCells, Value.cells, Nat.mod_one]
theorem infoInt2 : (Try.prog.info? 2).map (fun i => (i.zero, i.size, i.bytes)) = some (some (.int .i64 0), 1, 8) := by kernel_rfl
theorem infoRow2 : (Try.prog.info? 42).map (fun i => (i.zero, i.size, i.bytes)) = some (some (.slice none 0 0), 1, 24) := by kernel_rfl
theorem make_ints2 (m : Int) (W : World) (h0 : 0 ≤ m) (h1 : m ≤ 1000000) : (Instr.makeSlice 42 (.int .i64 m) (.int .i64 m)).run Try.prog W = .ok (.slice (some ⟨W.heap.size, 0, none⟩) m.toNat m.toNat) (W.alloc (.cells (icells m.toNat (fun _ => 0)) 2)) := by
  obtain ⟨ni0, hni, hni0, hni1, hni2⟩ := info_parts infoInt2
  have h := run_make (P := Try.prog) W 42 2 ni0 (.int .i64 0) Try.underlying42 hni hni0 .i64 .i64 m m h0 (Int.le_refl _) (by rw [hni2]; omega) (by omega)
  rw [h, hni1, made_ints2]

theorem implRows_any (n : Nat) (A : Option Addr) (c : Nat) (xs : List Blk) (w : World) (hA : Bl w A xs) (hl : xs.length ≤ 1048576) (hn : n ≤ 15) (hg : ∀ i, i < xs.length → goodB n (nth xs i) = true) :
    Calls Try.prog 59 #[.agg #[.int .i64 n, .slice A xs.length c]] w fun e w' => ∃ u P, e = .returned u ∧ Mb w' w.heap.size u xs.length n P (rowX xs) ∧ Below w.heap.size w w' := by
  obtain ⟨li0, hli, hli0, hli1, hli2⟩ := info_parts infoRow2
  have HG := Lib.hid hg
  have HR := Lib.hid (Row.new w 30 #[.int .i64 n, .slice A xs.length c])
  have HW := Lib.hid (below_alloc w (.cells #[.int .i64 n, .slice A xs.length c] 30))
  have HA := Lib.hid (hA.below HW.out)
  have HX : Hid (∀ k, rowX xs k = rowG (nth xs k) 3) := fun k => rfl
  generalize rowX xs = X at *
  clear hA hg
  go_enter Try.func59, Try.ntmps59
  go_wp2
  generalize w.alloc (.cells #[.int .i64 n, .slice A xs.length c] 30) = W at *
  go_loopw [3, 12] (fun u i wr => ∃ k : Nat, k ≤ xs.length ∧ i = .int .i64 k ∧ Hid (Below W.heap.size W wr ∧ ∃ P, Mb wr W.heap.size u k n P X)) (fun _ i _ => xs.length - (intOf i).toNat)
  case atStart => exact ⟨0, by omega, rfl, Below.refl _ _, _, Mb.nil _ _ _ _⟩
  case round =>
    obtain ⟨k, hk, rfl, HC⟩ := hrel
    obtain ⟨c0, c1⟩ := (HR.out.below HC.out.1).c2
    have hlr := (HR.out.below HC.out.1).lt
    by_cases hlt : k < xs.length
    · obtain ⟨b1, o1, hA1, hb1, p0, p1, p2⟩ := (HA.out.below HC.out.1).at_ hlt
      subst hA1
      have hbd := good_bd (HG.out k hlt)
      have hXk := HX.out k
      generalize nth xs k = b at *
      obtain ⟨q0, q1, q2⟩ := b
      simp only at p0 p1 p2 hbd
      obtain ⟨a0, rfl⟩ := Int.eq_ofNat_of_zero_le (by omega : 0 ≤ q0)
      obtain ⟨a1, rfl⟩ := Int.eq_ofNat_of_zero_le (by omega : 0 ≤ q1)
      obtain ⟨a2, rfl⟩ := Int.eq_ofNat_of_zero_le (by omega : 0 ≤ q2)
      have HXk := Lib.hid hXk
      clear hXk
      have hmk : ∀ W' : World, (Instr.makeSlice 42 (.int .i64 (n : Int)) (.int .i64 (n : Int))).run Try.prog W' = .ok (.slice (some ⟨W'.heap.size, 0, none⟩) n n) (W'.alloc (.cells (icells n (fun _ => 0)) 2)) := fun W' => by
        have := make_ints2 n W' (by omega) (by omega)
        simpa using this
      have HB2 := Lib.hid (below_up (below_alloc wr (.cells #[.int .i64 (a0 : Int), .int .i64 (a1 : Int), .int .i64 (a2 : Int)] 99)) (below_alloc (wr.alloc (.cells #[.int .i64 (a0 : Int), .int .i64 (a1 : Int), .int .i64 (a2 : Int)] 99)) (.cells (icells n (fun _ => 0)) 2)))
      have hv0 : Va ((wr.alloc (.cells #[.int .i64 (a0 : Int), .int .i64 (a1 : Int), .int .i64 (a2 : Int)] 99)).alloc (.cells (icells n (fun _ => 0)) 2)) (wr.heap.size + 1) n (fun _ => 0) := by
        have := Row.new (wr.alloc (.cells #[.int .i64 (a0 : Int), .int .i64 (a1 : Int), .int .i64 (a2 : Int)] 99)) 2 (icells n (fun _ => 0))
        rw [World.size_alloc] at this
        exact this
      have HV0 := Lib.hid hv0
      clear hv0
      have hkl : (k : Int) < (xs.length : Int) := by omega
      go_wp2
      clear p0 p1 p2 c0 c1 hlr hmk
      obtain ⟨wo, rfl⟩ : ∃ wo : World, wo = wr := ⟨_, rfl⟩
      go_loopw [20] (fun i wq => ∃ j : Nat, j ≤ 3 ∧ i = .int .i64 j ∧ Hid (Below wo.heap.size wo wq ∧ Va wq (wo.heap.size + 1) n (rowG ((a0 : Int), (a1 : Int), (a2 : Int)) j))) (fun i _ => 3 - (intOf i).toNat)
      case atStart => exact ⟨0, by omega, rfl, HB2.out, HV0.out⟩
      case round =>
        obtain ⟨j, hj, rfl, HD⟩ := hrel
        obtain ⟨wq, rfl⟩ : ∃ wq : World, wq = wr := ⟨_, rfl⟩
        have hvl := HD.out.2.lt
        by_cases hj3 : j < 3
        · have h3 : j = 0 ∨ j = 1 ∨ j = 2 := by omega
          rcases h3 with rfl | rfl | rfl
          · have i0 := idx0 (a0 : Int) a1 a2
            have e0 := HD.out.2.cell (i := a0) (by omega)
            have f0 := HD.out.2.frozen a0
            have HS := Lib.hid (HD.out.2.set a0 1)
            go_wp2
            go_roundw
            case rel => exact ⟨1, by omega, rfl, HD.out.1.setCell (Nat.le_succ _) _, HS.out⟩
            case measure => simp [intOf]
          · have i0 := idx1 (a0 : Int) a1 a2
            have e0 := HD.out.2.cell (i := a1) (by omega)
            have f0 := HD.out.2.frozen a1
            have HS := Lib.hid (HD.out.2.set a1 1)
            go_wp2
            go_roundw
            case rel => exact ⟨2, by omega, rfl, HD.out.1.setCell (Nat.le_succ _) _, HS.out⟩
            case measure => simp [intOf]
          · have i0 := idx2 (a0 : Int) a1 a2
            have e0 := HD.out.2.cell (i := a2) (by omega)
            have f0 := HD.out.2.frozen a2
            have HS := Lib.hid (HD.out.2.set a2 1)
            go_wp2
            go_roundw
            case rel => exact ⟨3, by omega, rfl, HD.out.1.setCell (Nat.le_succ _) _, HS.out⟩
            case measure => simp [intOf]
        · obtain rfl : j = 3 := by omega
          obtain ⟨P, hMb⟩ := HC.out.2
          have HMb := Lib.hid hMb
          have hMq := hMb.below HD.out.1
          have HOO : Hid (wq.ownsRow W.heap.size 42 1 u3 k ((List.range k).map fun i => Value.slice (some ⟨P i, 0, none⟩) n n)) := hMq.1
          have hbw : W.heap.size ≤ wq.heap.size := by have := HC.out.1.size; have := HD.out.1.size; omega
          have HVq : Hid (Va wq (wo.heap.size + 1) n (X k)) := by unfold Hid; rw [HXk.out]; exact HD.out.2
          have HPB : Hid (W.heap.size ≤ wo.heap.size + 1) := by have := HC.out.1.size; unfold Hid; omega
          clear hMb hMq
          go_wp2_with (at_builtin; go_loud (refine wpList_append_own_at _ rfl _ _ 61 rfl W.heap.size 42 li0 (.slice none 0 0) 1 24 Try.underlying61 hli hli0 hli1 hli2 rfl (by decide) _ _ _ rfl (HOO.out.alloc _) ⟨wq.heap.size, 0, none⟩ 1 1 [.slice (some ⟨wo.heap.size + 1, 0, none⟩) n n] rfl rfl (cells_new _ _ _) (by simp [Value.oneCell']) (by unfold maxLen; omega) (by omega) (by simp; omega) ?_); intro v2 w2 hown2 hg2 _ hat2)
          have hg3 : (wq.alloc (.cells #[.slice (some ⟨wo.heap.size + 1, 0, none⟩) n n] 42)).grownBy w2 u3.ownBlock := hg2
          have HPU : Hid (∃ Q, Mb w2 W.heap.size v2 (k + 1) n Q X) := Mb.push (w1 := wq.alloc (.cells #[.slice (some ⟨wo.heap.size + 1, 0, none⟩) n n] 42)) HMb.out HPB.out (by omega) (below_up HD.out.1 (below_alloc _ _)) (HVq.out.below (below_alloc _ _)) hg3 hown2 hat2
          have HBW : Hid (Below W.heap.size W w2) := by
            have h1 : Below W.heap.size W (wq.alloc (.cells #[.slice (some ⟨wo.heap.size + 1, 0, none⟩) n n] 42)) := below_up HC.out.1 (below_up HD.out.1 (below_alloc _ _))
            exact h1.grown hg3 (by simp; omega) (own_block HOO.out)
          clear hown2 hg2 hat2 hg3
          go_wp2
          go_roundw
          case rel => exact ⟨k + 1, by omega, by go_num, HBW.out, HPU.out⟩
          case measure => simp [intOf]; omega
    · obtain rfl : k = xs.length := by omega
      obtain ⟨P, hMb⟩ := HC.out.2
      have HMb := Lib.hid hMb
      clear hMb
      go_wp2
      go_ret
      exact ⟨_, P, rfl, HMb.out.base HW.out.size, below_up HW.out HC.out.1⟩

theorem specRows_any (n : Nat) (A : Option Addr) (c : Nat) (xs : List Blk) (w : World) (hA : Bl w A xs) (hl : xs.length ≤ 1048576) (hn : n ≤ 15) (hg : ∀ i, i < xs.length → goodB n (nth xs i) = true) :
    Calls Try.prog 54 #[.agg #[.int .i64 n, .slice A xs.length c]] w fun e w' => ∃ u P, e = .returned u ∧ Mb w' w.heap.size u xs.length n P (rowX xs) ∧ Below w.heap.size w w' := by
  obtain ⟨li0, hli, hli0, hli1, hli2⟩ := info_parts infoRow2
  have HG := Lib.hid hg
  have HR := Lib.hid (Row.new w 30 #[.int .i64 n, .slice A xs.length c])
  have HW := Lib.hid (below_alloc w (.cells #[.int .i64 n, .slice A xs.length c] 30))
  have HA := Lib.hid (hA.below HW.out)
  have HX : Hid (∀ k, rowX xs k = rowG (nth xs k) 3) := fun k => rfl
  generalize rowX xs = X at *
  clear hA hg
  go_enter Try.func54, Try.ntmps54
  have HSZ : Hid ((w.alloc (.cells #[.int .i64 n, .slice A xs.length c] 30)).heap.size = w.heap.size + 1) := World.size_alloc _ _
  go_wp2
  generalize w.alloc (.cells #[.int .i64 n, .slice A xs.length c] 30) = W at *
  have HE0 : Hid (Mb (W.alloc (.cells #[] 42)) W.heap.size (.slice (some ⟨w.heap.size + 1, 0, none⟩) 0 0) 0 n (fun _ => 0) X) := ⟨by rw [← HSZ.out]; exact own_empty _ _ _, fun i hi => by omega, fun i hi => by omega, fun i j hi => by omega⟩
  have HBE := Lib.hid (below_alloc W (.cells #[] 42))
  go_loopw [3, 4] (fun u i wr => ∃ k : Nat, k ≤ xs.length ∧ i = .int .i64 k ∧ Hid (Below W.heap.size W wr ∧ ∃ P, Mb wr W.heap.size u k n P X)) (fun _ i _ => xs.length - (intOf i).toNat)
  case atStart => exact ⟨0, by omega, rfl, HBE.out, _, HE0.out⟩
  case round =>
    obtain ⟨k, hk, rfl, HC⟩ := hrel
    obtain ⟨c0, c1⟩ := (HR.out.below HC.out.1).c2
    have hlr := (HR.out.below HC.out.1).lt
    by_cases hlt : k < xs.length
    · obtain ⟨b1, o1, hA1, hb1, p0, p1, p2⟩ := (HA.out.below HC.out.1).at_ hlt
      subst hA1
      have hbd := good_bd (HG.out k hlt)
      have hXk := HX.out k
      generalize nth xs k = b at *
      obtain ⟨q0, q1, q2⟩ := b
      simp only at p0 p1 p2 hbd
      obtain ⟨a0, rfl⟩ := Int.eq_ofNat_of_zero_le (by omega : 0 ≤ q0)
      obtain ⟨a1, rfl⟩ := Int.eq_ofNat_of_zero_le (by omega : 0 ≤ q1)
      obtain ⟨a2, rfl⟩ := Int.eq_ofNat_of_zero_le (by omega : 0 ≤ q2)
      have HXk := Lib.hid hXk
      clear hXk
      have hmk : ∀ W' : World, (Instr.makeSlice 42 (.int .i64 (n : Int)) (.int .i64 (n : Int))).run Try.prog W' = .ok (.slice (some ⟨W'.heap.size, 0, none⟩) n n) (W'.alloc (.cells (icells n (fun _ => 0)) 2)) := fun W' => by
        have := make_ints2 n W' (by omega) (by omega)
        simpa using this
      have HB2 := Lib.hid (below_alloc wr (.cells (icells n (fun _ => 0)) 2))
      have HV0 : Hid (Va (wr.alloc (.cells (icells n (fun _ => 0)) 2)) wr.heap.size n (fun _ => 0)) := Row.new wr 2 (icells n (fun _ => 0))
      have HPP := Lib.hid (And.intro p0 (And.intro p1 p2))
      have hkl : (k : Int) < (xs.length : Int) := by omega
      go_wp2
      clear p0 p1 p2 c0 c1 hlr hmk
      obtain ⟨wo, rfl⟩ : ∃ wo : World, wo = wr := ⟨_, rfl⟩
      go_loopw [6] (fun i wq => ∃ j : Nat, j ≤ 3 ∧ i = .int .i64 j ∧ Hid (Below wo.heap.size wo wq ∧ Va wq wo.heap.size n (rowG ((a0 : Int), (a1 : Int), (a2 : Int)) j))) (fun i _ => 3 - (intOf i).toNat)
      case atStart => exact ⟨0, by omega, rfl, HB2.out, HV0.out⟩
      case round =>
        obtain ⟨j, hj, rfl, HD⟩ := hrel
        obtain ⟨wq, rfl⟩ : ∃ wq : World, wq = wr := ⟨_, rfl⟩
        have hvl := HD.out.2.lt
        obtain ⟨x0, x1⟩ := ((HR.out.below HC.out.1).below HD.out.1).c2
        have hxl := ((HR.out.below HC.out.1).below HD.out.1).lt
        have hb1q : b1 < wq.heap.size := Nat.lt_of_lt_of_le hb1 HD.out.1.size
        have y0 : wq.cell? ⟨b1, o1 + k * 3, none⟩ = some (.int .i64 (a0 : Int)) := (HD.out.1.cell (p := ⟨b1, o1 + k * 3, none⟩) hb1).trans HPP.out.1
        have y1 : wq.cell? ⟨b1, o1 + k * 3 + 1, none⟩ = some (.int .i64 (a1 : Int)) := (HD.out.1.cell (p := ⟨b1, o1 + k * 3 + 1, none⟩) hb1).trans HPP.out.2.1
        have y2 : wq.cell? ⟨b1, o1 + k * 3 + 2, none⟩ = some (.int .i64 (a2 : Int)) := (HD.out.1.cell (p := ⟨b1, o1 + k * 3 + 2, none⟩) hb1).trans HPP.out.2.2
        by_cases hj3 : j < 3
        · have h3 : j = 0 ∨ j = 1 ∨ j = 2 := by omega
          rcases h3 with rfl | rfl | rfl
          · have e0 := HD.out.2.cell (i := a0) (by omega)
            have f0 := HD.out.2.frozen a0
            have HS := Lib.hid (HD.out.2.set a0 1)
            go_wp2
            go_roundw
            case rel => exact ⟨1, by omega, rfl, HD.out.1.setCell (Nat.le_refl _) _, HS.out⟩
            case measure => simp [intOf]
          · have e0 := HD.out.2.cell (i := a1) (by omega)
            have f0 := HD.out.2.frozen a1
            have HS := Lib.hid (HD.out.2.set a1 1)
            go_wp2
            go_roundw
            case rel => exact ⟨2, by omega, rfl, HD.out.1.setCell (Nat.le_refl _) _, HS.out⟩
            case measure => simp [intOf]
          · have e0 := HD.out.2.cell (i := a2) (by omega)
            have f0 := HD.out.2.frozen a2
            have HS := Lib.hid (HD.out.2.set a2 1)
            go_wp2
            go_roundw
            case rel => exact ⟨3, by omega, rfl, HD.out.1.setCell (Nat.le_refl _) _, HS.out⟩
            case measure => simp [intOf]
        · obtain rfl : j = 3 := by omega
          obtain ⟨P, hMb⟩ := HC.out.2
          have HMb := Lib.hid hMb
          have hMq := hMb.below HD.out.1
          have HOO : Hid (wq.ownsRow W.heap.size 42 1 u3 k ((List.range k).map fun i => Value.slice (some ⟨P i, 0, none⟩) n n)) := hMq.1
          have hbw : W.heap.size ≤ wq.heap.size := by have := HC.out.1.size; have := HD.out.1.size; omega
          have HVq : Hid (Va wq wo.heap.size n (X k)) := by unfold Hid; rw [HXk.out]; exact HD.out.2
          have HPB : Hid (W.heap.size ≤ wo.heap.size) := HC.out.1.size
          clear hMb hMq
          go_wp2_with (at_builtin; go_loud (refine wpList_append_own_at _ rfl _ _ 61 rfl W.heap.size 42 li0 (.slice none 0 0) 1 24 Try.underlying61 hli hli0 hli1 hli2 rfl (by decide) _ _ _ rfl (HOO.out.alloc _) ⟨wq.heap.size, 0, none⟩ 1 1 [.slice (some ⟨wo.heap.size, 0, none⟩) n n] rfl rfl (cells_new _ _ _) (by simp [Value.oneCell']) (by unfold maxLen; omega) (by omega) (by simp; omega) ?_); intro v2 w2 hown2 hg2 _ hat2)
          have hg3 : (wq.alloc (.cells #[.slice (some ⟨wo.heap.size, 0, none⟩) n n] 42)).grownBy w2 u3.ownBlock := hg2
          have HPU : Hid (∃ Q, Mb w2 W.heap.size v2 (k + 1) n Q X) := Mb.push (w1 := wq.alloc (.cells #[.slice (some ⟨wo.heap.size, 0, none⟩) n n] 42)) HMb.out HPB.out (by omega) (below_up HD.out.1 (below_alloc _ _)) (HVq.out.below (below_alloc _ _)) hg3 hown2 hat2
          have HBW : Hid (Below W.heap.size W w2) := by
            have h1 : Below W.heap.size W (wq.alloc (.cells #[.slice (some ⟨wo.heap.size, 0, none⟩) n n] 42)) := below_up HC.out.1 (below_up HD.out.1 (below_alloc _ _))
            exact h1.grown hg3 (by simp; omega) (own_block HOO.out)
          clear hown2 hg2 hat2 hg3
          go_wp2
          go_roundw
          case rel => exact ⟨k + 1, by omega, by go_num, HBW.out, HPU.out⟩
          case measure => simp [intOf]; omega
    · obtain rfl : k = xs.length := by omega
      obtain ⟨P, hMb⟩ := HC.out.2
      have HMb := Lib.hid hMb
      clear hMb
      go_wp2
      go_ret
      exact ⟨_, P, rfl, HMb.out.base HW.out.size, below_up HW.out HC.out.1⟩

end Go.Proofs.Ytbknpflbafjblaa

/- The contract of the program's rank of rows; conditions: stated in it. -/
namespace Go.Proofs.Ytbknpflbafjblaa
open Go.RowKit
set_option maxHeartbeats 2000000
set_option maxRecDepth 100000
set_option linter.unusedSimpArgs false
set_option linter.unusedVariables false

theorem rankCl_any (q p v c : Nat) (F : Nat → Int) (W : World) (hq : W.cell? ⟨q, 0, none⟩ = some (.int .i64 (c : Int))) (hql : q < W.heap.size) (hv : Va W p v F) (hc : c < v) (hv15 : v ≤ 15) :
    Calls Try.prog 110 #[.slice (some ⟨p, 0, none⟩) v v, .pointer (some ⟨q, 0, none⟩)] W fun e w' => e = .returned (.bool (F c != 0)) ∧ W = w' := by
  have e0 := hv.cell hc
  have hpl := hv.lt
  go_enter Try.func110, Try.ntmps110
  go_wp2
  go_ret
  exact ⟨rfl, rfl⟩

theorem indexRows_any (B gu r l m v c q cap : Nat) (A : Option Addr) (a : Int) (P : Nat → Nat) (X : Nat → Nat → Int) (w : World) (hM : Mx w B gu m v P X) (hA : 0 < l → A = some ⟨gu, r, none⟩) (ha : a = if pvN X c l r < m then ((pvN X c l r - r : Nat) : Int) else -1) (hl : r + l = m) (hm : m ≤ 1048576) (hq : w.cell? ⟨q, 0, none⟩ = some (.int .i64 (c : Int))) (hql : q < w.heap.size) (hc : c < v) (hv15 : v ≤ 15) :
    Calls Try.prog 109 #[.slice A l cap, .func (.func 110) #[] #[.pointer (some ⟨q, 0, none⟩)]] w fun e w' => e = .returned (.int .i64 a) ∧ w = w' := by
  have HM := Lib.hid hM
  have HA := Lib.hid hA
  have HIS : Hid (∀ b, r ≤ b → b ≤ r + l → (b < r + l → X b c ≠ 0) → (∀ j, r ≤ j → j < b → X j c = 0) → a = if b < m then ((b - r : Nat) : Int) else -1) := fun b h1 h2 h3 h4 => by rw [← pvN_is h1 h2 h3 h4]; exact ha
  clear hM ha hA
  go_enter Try.func109, Try.ntmps109
  go_wp2
  go_loopw [8] (fun i wr => ∃ k : Nat, k ≤ l ∧ i = .int .i64 k ∧ Below w.heap.size w wr ∧ wr = w ∧ Hid (∀ j, r ≤ j → j < r + k → X j c = 0)) (fun i _ => l - (intOf i).toNat)
  case atStart => exact ⟨0, by omega, rfl, Below.refl _ _, rfl, fun j h1 h2 => by omega⟩
  case round =>
    obtain ⟨k, hk, rfl, _, rfl, HC⟩ := hrel
    by_cases hlt : k < l
    · obtain rfl := HA.out (by omega)
      obtain ⟨h0, hgl, _⟩ := HM.out.head (i := r + k) (by omega)
      have HV := Lib.hid (HM.out.2.1 (r + k) (by omega))
      go_wp2_with fail
      refine (rankCl_any q (P (r + k)) v c _ _ hq hql HV.out hc hv15).mono ?_
      by_cases hz : X (r + k) c = 0
      · have hb : (X (r + k) c != 0) = false := by rw [hz]; rfl
        rw [hb]
        rintro e w1 ⟨rfl, rfl⟩
        have HZ := Lib.hid hz
        clear hz hb
        go_wp2
        go_roundw
        case rel =>
          refine ⟨k + 1, by omega, by go_num, Below.refl _ _, trivial, fun j h1 h2 => ?_⟩
          by_cases e : j = r + k
          · rw [e]; exact HZ.out
          · exact HC.out j h1 (by omega)
        case measure => simp [intOf]; omega
      · have hb : (X (r + k) c != 0) = true := by simpa using hz
        rw [hb]
        rintro e w1 ⟨rfl, rfl⟩
        have HPV : Hid (a = (k : Int)) := (HIS.out (r + k) (by omega) (by omega) (fun _ => hz) HC.out).trans (by rw [if_pos (by omega : r + k < m)]; omega)
        clear hz hb
        go_wp2
        go_ret
        exact ⟨ret_int HPV.out.symm, rfl⟩
    · obtain rfl : k = l := by omega
      have HPV : Hid (a = -1) := (HIS.out (r + k) (by omega) (by omega) (fun h => by omega) HC.out).trans (by rw [if_neg (by omega : ¬ r + k < m)])
      go_wp2
      go_ret
      exact ⟨ret_int HPV.out.symm, rfl⟩

theorem rank_any (B gu d m v : Nat) (p : Int) (P : Nat → Nat) (X : Nat → Nat → Int) (w : World) (hM : Mx w B gu m v P X) (hm0 : 0 < m) (hm : m ≤ 1048576) (hd : m ≤ d) (hv15 : v ≤ 15) (hp : p = 2 ∨ p = 3) (hB : B ≤ w.heap.size) (h0 : ∀ i, i < m → ∀ k, k < v → 0 ≤ X i k ∧ X i k < p) :
    Calls Try.prog 58 #[.slice (some ⟨gu, 0, none⟩) m d, .int .i64 v, .int .i64 p] w fun e w' => e = .returned (.int .i64 ((rkS p m X v).2 : Nat)) ∧ Below B w w' := by
  have HM := Lib.hid hM
  have HGD : Hid (∀ c, c ≤ v → GdX p m v (rkS p m X c).2 c (rkS p m X c).1) := rk_good hp h0
  have H0 : Hid (rkS p m X 0 = (X, 0)) := rfl
  have HST : Hid (∀ c, rkS p m X (c + 1) = if pvN (rkS p m X c).1 c (m - (rkS p m X c).2) (rkS p m X c).2 < m then (stpX p (swpX (rkS p m X c).1 (rkS p m X c).2 (pvN (rkS p m X c).1 c (m - (rkS p m X c).2) (rkS p m X c).2)) (rkS p m X c).2 c, (rkS p m X c).2 + 1) else rkS p m X c) := fun c => rfl
  have HP := Lib.hid hp
  generalize rkS p m X = S at *
  clear hM hp h0
  go_enter Try.func58, Try.ntmps58
  go_wp2
  go_loopw [7, 15] (fun rr i wr => ∃ c r : Nat, c ≤ v ∧ r ≤ m ∧ i = .int .i64 c ∧ rr = .int .i64 r ∧ Hid (Below B w wr ∧ r = (S c).2 ∧ ∃ P, Mx wr B gu m v P (S c).1)) (fun _ i _ => v - (intOf i).toNat)
  case atStart => exact ⟨0, 0, by omega, by omega, rfl, rfl, Below.refl _ _, by rw [H0.out], P, by rw [H0.out]; exact HM.out⟩
  case round =>
    obtain ⟨c, r, hcv, hrm, rfl, rfl, HC⟩ := hrel
    by_cases hlt : c < v
    · obtain ⟨hbw, hr, P1, hM1⟩ := HC.out
      have HB1 := Lib.hid hbw
      have HSc := Lib.hid (HST.out c)
      have HGc := Lib.hid (HGD.out c (by omega))
      rw [← hr] at HSc HGc
      generalize hX1 : (S c).1 = X1 at *
      have HSE : Hid (S c = (X1, r)) := by unfold Hid; rw [← hX1, hr]
      have HGL0 := Lib.hid (hM1.head (i := 0) hm0).2.1
      have HPL0 : Hid (∀ b, b < m → P1 b < wr.heap.size) := fun b hb => (hM1.2.1 b hb).lt
      have HM1 := Lib.hid (hM1.below (below_alloc wr (.cells #[.int .i64 (c : Int)] 2)))
      have HBA := Lib.hid ((hbw.alloc (Nat.le_trans hB hbw.size) (.cells #[.int .i64 (c : Int)] 2)))
      have HQ := Lib.hid (Row.new wr 2 #[.int .i64 (c : Int)])
      have HPV := Lib.hid (pvN_spec X1 c (m - r) r)
      clear HC hbw hr hM1 hX1
      generalize hPV : pvN X1 c (m - r) r = b at *
      have HPVE := Lib.hid hPV
      clear hPV
      have HGL : Hid (gu < wr.heap.size) := HGL0.out
      have HPL : Hid (∀ b, b < m → P1 b < wr.heap.size) := HPL0.out
      have e0q : (wr.alloc (.cells #[.int .i64 (c : Int)] 2)).cell? ⟨wr.heap.size, 0, none⟩ = some (.int .i64 (c : Int)) := (Row.cell HQ.out 0).trans rfl
      have hql := HQ.out.lt
      by_cases hdr : d = r
      · subst hdr
        have HN : Hid (S (c + 1) = (X1, d)) := by unfold Hid; rw [HSc.out, if_neg (by have := HPV.out.1; omega), HSE.out]
        go_wp2_with fail
        refine (indexRows_any B gu d 0 m v c wr.heap.size 0 _ (-1) P1 X1 _ HM1.out (fun h => by omega) (by rw [show pvN X1 c 0 d = d from rfl, if_neg (by omega)]) (by omega) hm e0q hql hlt hv15).mono ?_
        rintro e w1 ⟨rfl, rfl⟩
        generalize wr.alloc (.cells #[.int .i64 (c : Int)] 2) = W1 at *
        go_wp2
        go_roundw
        case rel => exact ⟨c + 1, d, by omega, by omega, by go_num, rfl, HBA.out, by rw [HN.out], P1, by rw [HN.out]; exact HM1.out⟩
        case measure => simp [intOf]; omega
      · by_cases hb : b < m
        · have hrb := HPV.out.1
          obtain ⟨t, rfl⟩ : ∃ t, b = r + t := ⟨b - r, by omega⟩
          have HN : Hid (S (c + 1) = (stpX p (swpX X1 r (r + t)) r c, r + 1)) := by unfold Hid; rw [HSc.out, if_pos hb]
          have HA : Hid ((t : Int) = if pvN X1 c (m - r) r < m then ((pvN X1 c (m - r) r - r : Nat) : Int) else -1) := by unfold Hid; rw [HPVE.out, if_pos hb]; omega
          go_wp2_with fail
          refine (indexRows_any B gu r (m - r) m v c wr.heap.size (d - r) _ t P1 X1 _ HM1.out (fun h => rfl) HA.out (by omega) hm e0q hql hlt hv15).mono ?_
          rintro e w1 ⟨rfl, rfl⟩
          generalize wr.alloc (.cells #[.int .i64 (c : Int)] 2) = W1 at *
          obtain ⟨h0, hgl, hf0⟩ := HM1.out.head (i := r) (by omega)
          obtain ⟨h1, _, hf1⟩ := HM1.out.head (i := r + t) (by omega)
          obtain ⟨h2, hf2⟩ := HM1.out.head2 (i := r) hb
          have HSW := Lib.hid (HM1.out.swap (i := r) (j := r + t) (by omega) hb (Or.inl ⟨rfl, rfl⟩))
          go_wp2
          go_region
          clear h0 hgl hf0 h1 hf1 h2 hf2
          obtain ⟨P2, hM2, hP2, _⟩ := HSW.out
          have HM2 : Hid (Mx ((W1.setCell ⟨gu, r, none⟩ (.slice (some ⟨P1 (r + t), 0, none⟩) v v)).setCell ⟨gu, r + t, none⟩ (.slice (some ⟨P1 r, 0, none⟩) v v)).drew B gu m v P2 (swpX X1 r (r + t))) := hM2.below (below_drew _)
          have HB2 : Hid (Below B w ((W1.setCell ⟨gu, r, none⟩ (.slice (some ⟨P1 (r + t), 0, none⟩) v v)).setCell ⟨gu, r + t, none⟩ (.slice (some ⟨P1 r, 0, none⟩) v v)).drew) := ((HBA.out.setCell HM1.out.2.2.2.2 _).setCell HM1.out.2.2.2.2 _).drew
          have hgq : gu ≠ wr.heap.size := fun e => by have := HGL.out; omega
          have HQ2 : Hid (Row ((W1.setCell ⟨gu, r, none⟩ (.slice (some ⟨P1 (r + t), 0, none⟩) v v)).setCell ⟨gu, r + t, none⟩ (.slice (some ⟨P1 r, 0, none⟩) v v)).drew wr.heap.size 2 #[.int .i64 (c : Int)]) := (Row.far (Row.far HQ.out hgq _) hgq _).below (below_drew _)
          have HPQ : Hid (∀ a, a < m → P2 a ≠ wr.heap.size) := fun a ha e => by
            obtain ⟨b, hb, e2⟩ := hP2 a ha
            have := HPL.out b hb
            omega
          have HG2 : Hid (GdX p m v r c (swpX X1 r (r + t))) := HGc.out.swp hrb hb
          clear hM2 hP2 HSW hgq HM1 HBA HQ e0q hql HPV HPVE HSc HA
          have hrm1 : r < m := by omega
          generalize swpX X1 r (r + t) = X2 at *
          generalize ((W1.setCell ⟨gu, r, none⟩ (.slice (some ⟨P1 (r + t), 0, none⟩) v v)).setCell ⟨gu, r + t, none⟩ (.slice (some ⟨P1 r, 0, none⟩) v v)).drew = W2 at *
          generalize decide ((t : Int) < 0) = bt
          clear HB1 HGL0 HPL0 HGL HPL HSE
          generalize wr.heap.size = q at *
          clear wr
          by_cases hd1 : d = r + 1
          · subst hd1
            have HFIN : Hid (Mx W2 B gu m v P2 (S (c + 1)).1) := by
              unfold Hid; rw [HN.out]
              exact HM2.out.congr fun a ha k hk => by show X2 a k = stpX p X2 r c a k; unfold stpX; rw [if_neg (by omega)]
            go_wp2
            go_loopw [48] (fun i wq => i = .int .i64 (0 : Int) ∧ wq = W2) (fun _ _ => 0)
            case atStart => exact ⟨rfl, rfl⟩
            case round =>
              obtain ⟨rfl, rfl⟩ := hrel
              go_wp2
              go_roundw
              case rel => exact ⟨c + 1, r + 1, by omega, by omega, by go_num, by go_num, HB2.out, by rw [HN.out], P2, HFIN.out⟩
              case measure => simp [intOf]; omega
          · have hp2 : 2 ≤ p ∧ p ≤ 3 := by rcases HP.out with rfl | rfl <;> omega
            go_wp2
            go_loopw [48] (fun i wq => ∃ k : Nat, k ≤ m - (r + 1) ∧ i = .int .i64 k ∧ Hid (Below B w wq ∧ Row wq q 2 #[.int .i64 (c : Int)] ∧ Mx wq B gu m v P2 (inX p X2 r c k 0))) (fun i _ => (m - (r + 1)) - (intOf i).toNat)
            case atStart => exact ⟨0, by omega, rfl, HB2.out, HQ2.out, HM2.out.congr fun a _ k _ => inX_0 p X2 r c a k⟩
            case round =>
              obtain ⟨k, hk, rfl, HD⟩ := hrel
              by_cases hlk : k < m - (r + 1)
              · obtain ⟨hgc, hgl, _⟩ := HD.out.2.2.head (i := r + 1 + k) (by omega)
                obtain ⟨hgr, _, _⟩ := HD.out.2.2.head (i := r) hrm1
                have hqc : wr.cell? ⟨q, 0, none⟩ = some (.int .i64 (c : Int)) := (Row.cell HD.out.2.1 0).trans rfl
                have hql := HD.out.2.1.lt
                obtain ⟨hac, hal, _⟩ := HD.out.2.2.cell (i := r + 1 + k) (j := c) (by omega) hlt
                rw [inX_a _ _ _ _ _ _ _ (Nat.zero_le _)] at hac
                obtain ⟨hrc, hrl, _⟩ := HD.out.2.2.cell (i := r) (j := c) hrm1 hlt
                rw [inX_r] at hrc
                obtain ⟨y, hy, hy0, hy4⟩ : ∃ y, X2 (r + 1 + k) c * X2 r c = y ∧ 0 ≤ y ∧ y ≤ 4 := ⟨_, rfl, mul_bds HP.out (HG2.out.rng _ (by omega) c hlt) (HG2.out.rng r hrm1 c hlt)⟩
                have HY := Lib.hid hy
                have hkl : (k : Int) < (m : Int) - (r + 1) := by omega
                go_wp2
                go_quiet (fail)
                clear hgc hgl hgr hqc hql hac hal hrc hrl hy hkl
                have HD2 : Hid (Below B w wr ∧ Row wr q 2 #[.int .i64 (c : Int)] ∧ Mx wr B gu m v P2 (inX p X2 r c k 0)) := HD.out
                obtain ⟨wo, rfl⟩ : ∃ wo : World, wo = wr := ⟨_, rfl⟩
                go_wp2
                go_loopw [66] (fun i wq => ∃ j : Nat, j ≤ v ∧ i = .int .i64 j ∧ Hid (Below B w wq ∧ Row wq q 2 #[.int .i64 (c : Int)] ∧ Mx wq B gu m v P2 (inX p X2 r c k j))) (fun i _ => v - (intOf i).toNat)
                case atStart => exact ⟨0, by omega, rfl, below_drewN HD2.out.1 _, HD2.out.2.1.below (below_drewN (Below.refl _ _) _), HD2.out.2.2.below (below_drewN (Below.refl _ _) _)⟩
                case round =>
                  obtain ⟨j, hj, rfl, HE⟩ := hrel
                  by_cases hjv : j < v
                  · obtain ⟨hgr, hgl, _⟩ := HE.out.2.2.head (i := r) hrm1
                    obtain ⟨haj, hal, haf⟩ := HE.out.2.2.cell (i := r + 1 + k) (j := j) (by omega) hjv
                    rw [inX_a _ _ _ _ _ _ _ (Nat.le_refl _)] at haj
                    obtain ⟨hrj, hrl, _⟩ := HE.out.2.2.cell (i := r) (j := j) hrm1 hjv
                    rw [inX_r] at hrj
                    have bx := HG2.out.rng (r + 1 + k) (by omega) j hjv
                    have bz := HG2.out.rng r hrm1 j hjv
                    obtain ⟨e, f, g, he, hf, hg, be, bf, bg, hgE⟩ := imp_vals HP.out bx bz ⟨hy0, hy4⟩
                    have HGE := Lib.hid hgE
                    have HS := Lib.hid (HE.out.2.2.put (i := r + 1 + k) (by omega) j g)
                    have HBS := Lib.hid (HE.out.1.setCell (p := ⟨P2 (r + 1 + k), j, none⟩) (HE.out.2.2.2.2.1 (r + 1 + k) (by omega)).2 (.int .i64 g))
                    have HRS := Lib.hid (Row.far HE.out.2.1 (HPQ.out (r + 1 + k) (by omega)) (p := ⟨P2 (r + 1 + k), j, none⟩) (.int .i64 g))
                    clear hgE
                    go_wp2
                    go_region
                    clear hgr hgl haj hal haf hrj hrl he hf hg be bf bg bx bz
                    go_wp2
                    go_roundw
                    case rel =>
                      refine ⟨j + 1, by omega, by go_num, HBS.out.drew, HRS.out.below (below_drew _), (HS.out.below (below_drew _)).congr fun a ha k' hk' => ?_⟩
                      rw [← inX_s, HY.out, ← HGE.out]; rfl
                    case measure => simp [intOf]; omega
                  · obtain rfl : j = v := by omega
                    have HMN : Hid (Mx wr B gu m j P2 (inX p X2 r c (k + 1) 0)) := HE.out.2.2.congr fun a ha k' hk' => inX_v p X2 r c k j a k' hk'
                    go_wp2
                    go_roundw
                    case rel => exact ⟨k + 1, by omega, by go_num, HE.out.1, HE.out.2.1, HMN.out⟩
                    case measure => simp [intOf]; omega
              · obtain rfl : k = m - (r + 1) := by omega
                have HFIN : Hid (Mx wr B gu m v P2 (S (c + 1)).1) := by
                  unfold Hid; rw [HN.out]
                  exact HD.out.2.2.congr fun a ha k hk => inX_m p X2 r c m a k ha hrm1
                go_wp2
                go_roundw
                case rel => exact ⟨c + 1, r + 1, by omega, by omega, by go_num, by go_num, HD.out.1, by rw [HN.out], P2, HFIN.out⟩
                case measure => simp [intOf]; omega
        · have HN : Hid (S (c + 1) = (X1, r)) := by unfold Hid; rw [HSc.out, if_neg hb, HSE.out]
          have HA : Hid ((-1 : Int) = if pvN X1 c (m - r) r < m then ((pvN X1 c (m - r) r - r : Nat) : Int) else -1) := by unfold Hid; rw [HPVE.out, if_neg hb]
          go_wp2_with fail
          refine (indexRows_any B gu r (m - r) m v c wr.heap.size (d - r) _ (-1) P1 X1 _ HM1.out (fun h => rfl) HA.out (by omega) hm e0q hql hlt hv15).mono ?_
          rintro e w1 ⟨rfl, rfl⟩
          generalize wr.alloc (.cells #[.int .i64 (c : Int)] 2) = W1 at *
          go_wp2
          go_roundw
          case rel => exact ⟨c + 1, r, by omega, by omega, by go_num, rfl, HBA.out, by rw [HN.out], P1, by rw [HN.out]; exact HM1.out⟩
          case measure => simp [intOf]; omega
    · obtain rfl : c = v := by omega
      have HR : Hid ((S c).2 = r) := HC.out.2.1.symm
      have HBE := Lib.hid HC.out.1
      go_wp2
      go_ret
      exact ⟨ret_int (by rw [HR.out]), HBE.out⟩

/-- no rows -/
theorem indexRows0_any (a : Nat) (q : Addr) (A : Option Addr) (w : World) :
    Calls Try.prog 109 #[.slice A 0 a, .func (.func 110) #[] #[.pointer (some q)]] w fun e w' => e = .returned (.int .i64 (-1)) ∧ w = w' := by
  go_enter Try.func109, Try.ntmps109
  go_wp2
  go_loopw [8] (fun i wr => i = .int .i64 (0 : Int) ∧ wr = w) (fun _ _ => 0)
  case atStart => exact ⟨rfl, rfl⟩
  case round =>
    obtain ⟨rfl, rfl⟩ := hrel
    go_wp2
    go_ret
    exact ⟨rfl, rfl⟩
theorem rank0_any (A : Option Addr) (d v : Nat) (p : Int) (w : World) (hA : A = none ∧ d = 0 ∨ ∃ g, A = some ⟨g, 0, none⟩) (hd : d ≤ maxLen) (hv15 : v ≤ 15) :
    Calls Try.prog 58 #[.slice A 0 d, .int .i64 v, .int .i64 p] w fun e w' => e = .returned (.int .i64 (0 : Int)) ∧ Below w.heap.size w w' := by
  rcases hA with ⟨rfl, rfl⟩ | ⟨g, rfl⟩
  · go_enter Try.func58, Try.ntmps58
    go_wp2
    go_loopw [7, 15] (fun rr i wr => ∃ c : Nat, c ≤ v ∧ i = .int .i64 c ∧ rr = .int .i64 (0 : Int) ∧ Hid (Below w.heap.size w wr)) (fun _ i _ => v - (intOf i).toNat)
    case atStart => exact ⟨0, by omega, rfl, rfl, Below.refl _ _⟩
    case round =>
      obtain ⟨c, hcv, rfl, rfl, HC⟩ := hrel
      by_cases hlt : c < v
      · have HB := Lib.hid (below_up HC.out (below_alloc wr (.cells #[.int .i64 (c : Int)] 2)))
        go_wp2_with fail
        refine (indexRows0_any _ _ _ _).mono ?_
        rintro e w1 ⟨rfl, rfl⟩
        go_wp2
        go_roundw
        case rel => exact ⟨c + 1, by omega, by go_num, rfl, HB.out⟩
        case measure => simp [intOf]; omega
      · go_wp2
        go_ret
        exact ⟨rfl, HC.out⟩
  · by_cases hd0 : d = 0
    · subst hd0
      go_enter Try.func58, Try.ntmps58
      go_wp2
      go_loopw [7, 15] (fun rr i wr => ∃ c : Nat, c ≤ v ∧ i = .int .i64 c ∧ rr = .int .i64 (0 : Int) ∧ Hid (Below w.heap.size w wr)) (fun _ i _ => v - (intOf i).toNat)
      case atStart => exact ⟨0, by omega, rfl, rfl, Below.refl _ _⟩
      case round =>
        obtain ⟨c, hcv, rfl, rfl, HC⟩ := hrel
        by_cases hlt : c < v
        · have HB := Lib.hid (below_up HC.out (below_alloc wr (.cells #[.int .i64 (c : Int)] 2)))
          go_wp2_with fail
          refine (indexRows0_any _ _ _ _).mono ?_
          rintro e w1 ⟨rfl, rfl⟩
          go_wp2
          go_roundw
          case rel => exact ⟨c + 1, by omega, by go_num, rfl, HB.out⟩
          case measure => simp [intOf]; omega
        · go_wp2
          go_ret
          exact ⟨rfl, HC.out⟩
    · go_enter Try.func58, Try.ntmps58
      go_wp2
      go_loopw [7, 15] (fun rr i wr => ∃ c : Nat, c ≤ v ∧ i = .int .i64 c ∧ rr = .int .i64 (0 : Int) ∧ Hid (Below w.heap.size w wr)) (fun _ i _ => v - (intOf i).toNat)
      case atStart => exact ⟨0, by omega, rfl, rfl, Below.refl _ _⟩
      case round =>
        obtain ⟨c, hcv, rfl, rfl, HC⟩ := hrel
        by_cases hlt : c < v
        · have HB := Lib.hid (below_up HC.out (below_alloc wr (.cells #[.int .i64 (c : Int)] 2)))
          go_wp2_with fail
          refine (indexRows0_any _ _ _ _).mono ?_
          rintro e w1 ⟨rfl, rfl⟩
          go_wp2
          go_roundw
          case rel => exact ⟨c + 1, by omega, by go_num, rfl, HB.out⟩
          case measure => simp [intOf]; omega
        · go_wp2
          go_ret
          exact ⟨rfl, HC.out⟩

end Go.Proofs.Ytbknpflbafjblaa

/- The contract of the reference's rank of rows; conditions: stated in it. -/
namespace Go.Proofs.Ytbknpflbafjblaa
open Go.RowKit
set_option maxHeartbeats 2000000
set_option maxRecDepth 100000
set_option linter.unusedSimpArgs false
set_option linter.unusedVariables false

theorem l09Rank0_any (A : Option Addr) (d : Nat) (p : Int) (w : World) :
    Calls Try.prog 53 #[.slice A 0 d, .int .i64 p] w fun e w' => e = .returned (.int .i64 (0 : Int)) ∧ w = w' := by
  go_enter Try.func53, Try.ntmps53
  go_wp2
  go_loopw [5, 6] (fun rr i wr => i = .int .i64 (0 : Int) ∧ rr = .int .i64 (0 : Int) ∧ wr = w) (fun _ _ _ => 0)
  case atStart => exact ⟨rfl, rfl, rfl⟩
  case round =>
    obtain ⟨rfl, rfl, rfl⟩ := hrel
    go_wp2
    go_ret
    exact ⟨rfl, rfl⟩

theorem l09Rank_any (B gu d m v : Nat) (p : Int) (P : Nat → Nat) (X : Nat → Nat → Int) (w : World) (hM : Mx w B gu m v P X) (hm0 : 0 < m) (hm : m ≤ 1048576) (hd : m ≤ d) (hv15 : v ≤ 15) (hp : p = 2 ∨ p = 3) (h0 : ∀ i, i < m → ∀ k, k < v → 0 ≤ X i k ∧ X i k < p) :
    Calls Try.prog 53 #[.slice (some ⟨gu, 0, none⟩) m d, .int .i64 p] w fun e w' => e = .returned (.int .i64 ((rkS p m X v).2 : Nat)) ∧ Below B w w' := by
  have HM := Lib.hid hM
  have HGD : Hid (∀ c, c ≤ v → GdX p m v (rkS p m X c).2 c (rkS p m X c).1) := rk_good hp h0
  have H0 : Hid (rkS p m X 0 = (X, 0)) := rfl
  have HST : Hid (∀ c, rkS p m X (c + 1) = if pvN (rkS p m X c).1 c (m - (rkS p m X c).2) (rkS p m X c).2 < m then (stpX p (swpX (rkS p m X c).1 (rkS p m X c).2 (pvN (rkS p m X c).1 c (m - (rkS p m X c).2) (rkS p m X c).2)) (rkS p m X c).2 c, (rkS p m X c).2 + 1) else rkS p m X c) := fun c => rfl
  have HP := Lib.hid hp
  generalize rkS p m X = S at *
  clear hM hp h0
  go_enter Try.func53, Try.ntmps53
  go_wp2
  go_loopw [5, 6] (fun rr i wr => ∃ c r : Nat, c ≤ v ∧ r ≤ m ∧ i = .int .i64 c ∧ rr = .int .i64 r ∧ Hid (Below B w wr ∧ r = (S c).2 ∧ ∃ P, Mx wr B gu m v P (S c).1)) (fun _ i _ => v - (intOf i).toNat)
  case atStart => exact ⟨0, 0, by omega, by omega, rfl, rfl, Below.refl _ _, by rw [H0.out], P, by rw [H0.out]; exact HM.out⟩
  case round =>
    obtain ⟨c, r, hcv, hrm, rfl, rfl, HC⟩ := hrel
    obtain ⟨hbw, hr, P1, hM1⟩ := HC.out
    have HB1 := Lib.hid hbw
    obtain ⟨hd0, hgl0, _⟩ := hM1.head (i := 0) hm0
    have hm0i : (0 : Int) < (m : Int) := by omega
    by_cases hlt : c < v
    · have HSc := Lib.hid (HST.out c)
      have HGc := Lib.hid (HGD.out c (by omega))
      rw [← hr] at HSc HGc
      generalize hX1 : (S c).1 = X1 at *
      have HSE : Hid (S c = (X1, r)) := by unfold Hid; rw [← hX1, hr]
      have HM1 := Lib.hid hM1
      have HIS : Hid (∀ b, r ≤ b → b ≤ m → (b < m → X1 b c ≠ 0) → (∀ j, r ≤ j → j < b → X1 j c = 0) → pvN X1 c (m - r) r = b) := fun b h1 h2 h3 h4 => pvN_is h1 (by omega) (fun h => h3 (by omega)) h4
      clear HC hbw hr hM1 hX1
      go_wp2
      clear hd0 hgl0
      obtain ⟨wo, rfl⟩ : ∃ wo : World, wo = wr := ⟨_, rfl⟩
      go_loopw [7, 8] (fun bst i wr => ∃ (k : Nat) (bb : Int), k ≤ m ∧ r ≤ k ∧ i = .int .i64 k ∧ bst = .int .i64 bb ∧ wr = wo ∧ Hid ((bb = -1 ∧ ∀ j, r ≤ j → j < k → X1 j c = 0) ∨ ∃ b : Nat, bb = b ∧ r ≤ b ∧ b < m ∧ pvN X1 c (m - r) r = b)) (fun _ i _ => m - (intOf i).toNat)
      case atStart => exact ⟨r, -1, by omega, by omega, rfl, rfl, rfl, Or.inl ⟨rfl, fun j h1 h2 => by omega⟩⟩
      case round =>
        obtain ⟨k, bb, hk, hrk, rfl, rfl, rfl, HD⟩ := hrel
        rcases HD.out with ⟨rfl, hz⟩ | ⟨b, rfl, hrb, hb, hpv⟩
        · have HZ := Lib.hid hz
          clear hz
          by_cases hlk : k < m
          · obtain ⟨hg, hgl, _⟩ := HM1.out.head hlk
            obtain ⟨hx, hxl, _⟩ := HM1.out.cell hlk hlt
            by_cases hxz : X1 k c = 0
            · rw [hxz] at hx
              have HXZ := Lib.hid hxz
              clear hxz
              go_wp2
              go_roundw
              case rel =>
                refine ⟨k + 1, -1, by omega, by omega, by go_num, rfl, trivial, Or.inl ⟨rfl, fun j h1 h2 => ?_⟩⟩
                by_cases e : j = k
                · rw [e]; exact HXZ.out
                · exact HZ.out j h1 (by omega)
              case measure => simp [intOf]; omega
            · have hxb : (X1 k c != 0) = true := by simpa using hxz
              have HPV : Hid (pvN X1 c (m - r) r = k) := HIS.out k hrk (by omega) (fun _ => hxz) HZ.out
              clear hxz
              go_wp2
              go_roundw
              case rel => exact ⟨k + 1, k, by omega, by omega, by go_num, rfl, trivial, Or.inr ⟨k, rfl, hrk, hlk, HPV.out⟩⟩
              case measure => simp [intOf]; omega
          · obtain rfl : k = m := by omega
            have HN : Hid (S (c + 1) = (X1, r)) := by unfold Hid; rw [HSc.out, if_neg (by rw [HIS.out k hrk (Nat.le_refl _) (fun h => by omega) HZ.out]; omega), HSE.out]
            go_wp2
            go_roundw
            case rel => exact ⟨c + 1, r, by omega, by omega, by go_num, rfl, HB1.out, by rw [HN.out], P1, by rw [HN.out]; exact HM1.out⟩
            case measure => simp [intOf]; omega
        · have HN : Hid (S (c + 1) = (stpX p (swpX X1 r b) r c, r + 1)) := by unfold Hid; rw [HSc.out, hpv, if_pos hb]
          have hrm1 : r < m := by omega
          clear hpv HD
          obtain ⟨h0, hgl, hf0⟩ := HM1.out.head (i := r) hrm1
          obtain ⟨h1, _, hf1⟩ := HM1.out.head (i := b) hb
          obtain ⟨h2, hf2⟩ := HM1.out.head2 (i := b) hrm1
          have HSW := Lib.hid (HM1.out.swap (i := b) (j := r) hrm1 hb (Or.inr ⟨rfl, rfl⟩))
          have hp2 : 2 ≤ p ∧ p ≤ 3 := by rcases HP.out with rfl | rfl <;> omega
          rcases Decidable.em ((k : Int) < (m : Int)) with hkm | hkm <;> (
            go_wp2
            clear h0 hgl hf0 h1 hf1 h2 hf2 hkm
            obtain ⟨P2, hM2, _, hP2⟩ := HSW.out
            have HM2 : Hid (Mx ((wr.setCell ⟨gu, b, none⟩ (.slice (some ⟨P1 r, 0, none⟩) v v)).setCell ⟨gu, r, none⟩ (.slice (some ⟨P1 b, 0, none⟩) v v)) B gu m v P2 (swpX X1 r b)) := hM2
            have HB2 : Hid (Below B w ((wr.setCell ⟨gu, b, none⟩ (.slice (some ⟨P1 r, 0, none⟩) v v)).setCell ⟨gu, r, none⟩ (.slice (some ⟨P1 b, 0, none⟩) v v))) := (HB1.out.setCell HM1.out.2.2.2.2 _).setCell HM1.out.2.2.2.2 _
            have HG2 : Hid (GdX p m v r c (swpX X1 r b)) := HGc.out.swp hrb hb
            clear hM2 HSW HM1 HB1
            generalize swpX X1 r b = X2 at *
            generalize ((wr.setCell ⟨gu, b, none⟩ (.slice (some ⟨P1 r, 0, none⟩) v v)).setCell ⟨gu, r, none⟩ (.slice (some ⟨P1 b, 0, none⟩) v v)) = W2 at *
            rw [← hP2]
            clear hP2
            go_loopw [10] (fun i wq => ∃ k : Nat, r + 1 + k ≤ m ∧ i = .int .i64 ((r + 1 + k : Nat) : Int) ∧ Hid (Below B w wq ∧ Mx wq B gu m v P2 (inX p X2 r c k 0))) (fun i _ => m - (intOf i).toNat)
            case atStart => exact ⟨0, by omega, by go_num, HB2.out, HM2.out.congr fun a _ k _ => inX_0 p X2 r c a k⟩
            case round =>
              obtain ⟨k, hk, rfl, HD⟩ := hrel
              by_cases hlk : r + 1 + k < m
              · obtain ⟨hgc, hgl, _⟩ := HD.out.2.head (i := r + 1 + k) hlk
                obtain ⟨hac, hal, _⟩ := HD.out.2.cell (i := r + 1 + k) (j := c) hlk hlt
                rw [inX_a _ _ _ _ _ _ _ (Nat.zero_le _)] at hac
                obtain ⟨hrc, hrl, _⟩ := HD.out.2.cell (i := r) (j := c) hrm1 hlt
                rw [inX_r] at hrc
                obtain ⟨y, hy, hy0, hy4⟩ : ∃ y, X2 (r + 1 + k) c * X2 r c = y ∧ 0 ≤ y ∧ y ≤ 4 := ⟨_, rfl, mul_bds HP.out (HG2.out.rng _ (by omega) c hlt) (HG2.out.rng r hrm1 c hlt)⟩
                have HY := Lib.hid hy
                obtain ⟨tt, _, _, htt, _, _, htb, _⟩ := spec_vals (x := 0) (y := y) (z := 0) HP.out (by omega) (by omega) ⟨hy0, hy4⟩
                have HTT := Lib.hid htt
                go_wp2
                go_quiet (fail)
                clear hgc hgl hac hal hrc hrl hy htt
                have HD2 : Hid (Below B w wr ∧ Mx wr B gu m v P2 (inX p X2 r c k c)) := ⟨HD.out.1, HD.out.2.congr fun a ha k' hk' => inX_c HG2.out hrm1 k hlk a k'⟩
                obtain ⟨wo, rfl⟩ : ∃ wo : World, wo = wr := ⟨_, rfl⟩
                go_wp2
                go_loopw [13] (fun i wq => ∃ j : Nat, j ≤ v ∧ c ≤ j ∧ i = .int .i64 j ∧ Hid (Below B w wq ∧ Mx wq B gu m v P2 (inX p X2 r c k j))) (fun i _ => v - (intOf i).toNat)
                case atStart => exact ⟨c, by omega, by omega, rfl, below_drewN HD2.out.1 _, HD2.out.2.below (below_drewN (Below.refl _ _) _)⟩
                case round =>
                  obtain ⟨j, hj, hcj, rfl, HE⟩ := hrel
                  by_cases hjv : j < v
                  · obtain ⟨haj, hal, haf⟩ := HE.out.2.cell (i := r + 1 + k) (j := j) (by omega) hjv
                    rw [inX_a _ _ _ _ _ _ _ (Nat.le_refl _)] at haj
                    obtain ⟨hrj, hrl, _⟩ := HE.out.2.cell (i := r) (j := j) hrm1 hjv
                    rw [inX_r] at hrj
                    have bx := HG2.out.rng (r + 1 + k) (by omega) j hjv
                    have bz := HG2.out.rng r hrm1 j hjv
                    obtain ⟨t2, e, g, ht2, he, hg, bt, be, bg, hgE⟩ := spec_vals HP.out bx bz ⟨hy0, hy4⟩
                    obtain rfl : tt = t2 := HTT.out.symm.trans ht2
                    have HGE := Lib.hid hgE
                    have HS := Lib.hid (HE.out.2.put (i := r + 1 + k) (by omega) j g)
                    have HBS := Lib.hid (HE.out.1.setCell (p := ⟨P2 (r + 1 + k), j, none⟩) (HE.out.2.2.2.1 (r + 1 + k) (by omega)).2 (.int .i64 g))
                    clear hgE ht2
                    go_wp2
                    go_region
                    clear hal haj haf hrj hrl he hg be bg bx bz
                    go_wp2
                    go_roundw
                    case rel =>
                      refine ⟨j + 1, by omega, by omega, by go_num, HBS.out.drew, (HS.out.below (below_drew _)).congr fun a ha k' hk' => ?_⟩
                      rw [← inX_s, HY.out, ← HGE.out]; rfl
                    case measure => simp [intOf]; omega
                  · obtain rfl : j = v := by omega
                    have HMN : Hid (Mx wr B gu m j P2 (inX p X2 r c (k + 1) 0)) := HE.out.2.congr fun a ha k' hk' => inX_v p X2 r c k j a k' hk'
                    go_wp2
                    go_roundw
                    case rel => exact ⟨k + 1, by omega, by go_num, HE.out.1, HMN.out⟩
                    case measure => simp [intOf]; omega
              · obtain rfl : k = m - (r + 1) := by omega
                have HFIN : Hid (Mx wr B gu m v P2 (S (c + 1)).1) := by
                  unfold Hid; rw [HN.out]
                  exact HD.out.2.congr fun a ha k hk => inX_m p X2 r c m a k ha hrm1
                go_wp2
                go_roundw
                case rel => exact ⟨c + 1, r + 1, by omega, by omega, by go_num, by go_num, HD.out.1, by rw [HN.out], P2, HFIN.out⟩
                case measure => simp [intOf]; omega)
    · obtain rfl : c = v := by omega
      have HR : Hid ((S c).2 = r) := HC.out.2.1.symm
      clear hM1 hr hbw
      go_wp2
      go_ret
      exact ⟨ret_int (by rw [HR.out]), HB1.out⟩

end Go.Proofs.Ytbknpflbafjblaa

/- Contracts of RankModulo, of the reference and of the program; conditions: stated in each. -/
namespace Go.Proofs.Ytbknpflbafjblaa
open Go.RowKit
set_option maxHeartbeats 1000000
set_option maxRecDepth 100000
set_option linter.unusedSimpArgs false
set_option linter.unusedVariables false

theorem rkS_zero (p : Int) (X : Nat → Nat → Int) (hp : p = 2 ∨ p = 3) (v : Nat) : (rkS p 0 X v).2 = 0 := by
  have h := (rk_good (m := 0) (v := v) (X := X) hp (fun i hi => by omega) v (Nat.le_refl _)).rle
  omega
theorem rowX_rng (xs : List Blk) {p : Int} (hp : p = 2 ∨ p = 3) (i k : Nat) : 0 ≤ rowX xs i k ∧ rowX xs i k < p := by
  have := rowG_rng (nth xs i) 3 k
  unfold rowX
  rcases hp with rfl | rfl <;> omega
theorem rankU_any (B m v : Nat) (p : Int) (u : Value) (P : Nat → Nat) (X : Nat → Nat → Int) (w : World) (hM : Mb w B u m v P X) (hm : m ≤ 1048576) (hv15 : v ≤ 15) (hp : p = 2 ∨ p = 3) (hB : B ≤ w.heap.size) (h0 : ∀ i, i < m → ∀ k, k < v → 0 ≤ X i k ∧ X i k < p) :
    Calls Try.prog 58 #[u, .int .i64 v, .int .i64 p] w fun e w' => e = .returned (.int .i64 ((rkS p m X v).2 : Nat)) ∧ Below B w w' := by
  by_cases h : m = 0
  · subst h
    obtain ⟨A, d, rfl, hA, hd⟩ := hM.zero
    refine (rank0_any A d v p w hA hd hv15).mono ?_
    rintro e w' ⟨rfl, hb⟩
    exact ⟨by rw [rkS_zero p X hp v]; rfl, hb.mono hB⟩
  · obtain ⟨gu, d, rfl, hd, hx⟩ := hM.mx (by omega)
    exact rank_any B gu d m v p P X w hx (by omega) hm hd hv15 hp hB h0
theorem l09RankU_any (B m v : Nat) (p : Int) (u : Value) (P : Nat → Nat) (X : Nat → Nat → Int) (w : World) (hM : Mb w B u m v P X) (hm : m ≤ 1048576) (hv15 : v ≤ 15) (hp : p = 2 ∨ p = 3) (h0 : ∀ i, i < m → ∀ k, k < v → 0 ≤ X i k ∧ X i k < p) :
    Calls Try.prog 53 #[u, .int .i64 p] w fun e w' => e = .returned (.int .i64 ((rkS p m X v).2 : Nat)) ∧ Below B w w' := by
  by_cases h : m = 0
  · subst h
    obtain ⟨A, d, rfl, hA, hd⟩ := hM.zero
    refine (l09Rank0_any A d p w).mono ?_
    rintro e w' ⟨rfl, rfl⟩
    exact ⟨by rw [rkS_zero p X hp v]; rfl, Below.refl _ _⟩
  · obtain ⟨gu, d, rfl, hd, hx⟩ := hM.mx (by omega)
    exact l09Rank_any B gu d m v p P X w hx (by omega) hm hd hv15 hp h0

theorem specRnk_any (v : Int) (A : Option Addr) (c : Nat) (xs : List Blk) (p : Int) (w : World) (hA : Bl w A xs) (hl : xs.length ≤ 1048576) :
    Calls Try.prog 16 #[.agg #[.int .i64 v, .slice A xs.length c], .int .i64 p] w fun e w' => e = .returned (.tuple #[.int .i64 (rnkR v xs p).1, .int .i64 (rnkR v xs p).2]) ∧ Below w.heap.size w w' := by
  cases hs : isSysB v xs
  · have HN : Hid (rnkR v xs p = (0, 1)) := by unfold Hid rnkR; simp [hs]
    generalize rnkR v xs p = R at *
    have HA := Lib.hid hA; clear hA; have HR := Lib.hid (Row.box w 30 (.int .i64 v) (.slice A xs.length c)); have HW := Lib.hid (Since.refl w); go_enter Try.func16, Try.ntmps16; go_wp2_with fail; replace HA := Lib.hid (HA.out.below (below_alloc _ (.cells #[.int .i64 v, .slice A xs.length c] 30))); replace HW := Lib.hid (HW.out.below (below_alloc _ (.cells #[.int .i64 v, .slice A xs.length c] 30)))
    refine (l01Is_any v A c xs _ HA.out hl).mono ?_; rw [hs]; rintro e w_ ⟨rfl, hb⟩; replace HW := Lib.hid (HW.out.below hb); clear hb
    go_wp2
    go_ret2
    exact ⟨by rw [HN.out]; rfl, HW.out⟩
  · have HS := Lib.hid (isSysB_iff.1 hs)
    have hv := HS.out.1
    obtain ⟨n, rfl⟩ := Int.eq_ofNat_of_zero_le (by omega : 0 ≤ v)
    by_cases hp : 2 ≤ p ∧ p ≤ 3
    · have HP : Hid (p = 2 ∨ p = 3) := by unfold Hid; omega
      have HN : Hid (rnkR n xs p = ((((rkS p xs.length (rowX xs) n).2 : Nat) : Int), 0)) := by unfold Hid rnkR; rw [if_pos hs, if_pos hp]; rfl
      have HX := Lib.hid (rowX_rng xs HP.out)
      generalize rnkR n xs p = R at *
      generalize hq : (((rkS p xs.length (rowX xs) n).2 : Nat) : Int) = q at *
      have HQ := Lib.hid hq
      clear hq
      have h23 := HP.out
      clear hp
      rcases h23 with rfl | rfl
      all_goals
        have HA := Lib.hid hA; clear hA; have HR := Lib.hid (Row.box w 30 (.int .i64 n) (.slice A xs.length c)); have HW := Lib.hid (Since.refl w); go_enter Try.func16, Try.ntmps16; go_wp2_with fail; replace HA := Lib.hid (HA.out.below (below_alloc _ (.cells #[.int .i64 n, .slice A xs.length c] 30))); replace HW := Lib.hid (HW.out.below (below_alloc _ (.cells #[.int .i64 n, .slice A xs.length c] 30)))
        refine (l01Is_any n A c xs _ HA.out hl).mono ?_; rw [hs]; rintro e w_ ⟨rfl, hb⟩; replace HA := Lib.hid (HA.out.below hb); replace HW := Lib.hid (HW.out.below hb); replace HR := Lib.hid (HR.out.below hb); clear hb; (try clear c0 c1); obtain ⟨c0, c1⟩ := HR.out.c2
        have hlr := HR.out.lt
        go_wp2_with fail
        refine (specRows_any n A c xs _ HA.out hl (by omega) (fun i hi => (HS.out.2.2.1 i hi).1)).mono ?_
        rintro e w3 ⟨u, P, rfl, hM, hb⟩
        have HM := Lib.hid (hM.base (B' := w.heap.size) HW.out.size)
        have HW3 := Lib.hid (HW.out.below hb)
        clear hM hb
        go_wp2_with fail
        refine (l09RankU_any w.heap.size xs.length n _ u P (rowX xs) _ HM.out hl (by omega) (by first | exact Or.inl rfl | exact Or.inr rfl) (fun i _ k _ => HX.out i k)).mono ?_
        rw [HQ.out]
        rintro e w4 ⟨rfl, hb⟩
        have HW4 : Hid (Below w.heap.size w w4) := Below.trans HW3.out hb
        clear hb
        go_wp2
        go_ret2
        exact ⟨by rw [HN.out]; rfl, HW4.out⟩
    · have HN : Hid (rnkR n xs p = (0, 2)) := by unfold Hid rnkR; rw [if_pos hs, if_neg hp]
      have hp2 : (p != 2) = true := by simp; omega
      have hp3 : (p != 3) = true := by simp; omega
      generalize rnkR n xs p = R at *
      have HA := Lib.hid hA; clear hA; have HR := Lib.hid (Row.box w 30 (.int .i64 n) (.slice A xs.length c)); have HW := Lib.hid (Since.refl w); go_enter Try.func16, Try.ntmps16; go_wp2_with fail; replace HA := Lib.hid (HA.out.below (below_alloc _ (.cells #[.int .i64 n, .slice A xs.length c] 30))); replace HW := Lib.hid (HW.out.below (below_alloc _ (.cells #[.int .i64 n, .slice A xs.length c] 30)))
      refine (l01Is_any n A c xs _ HA.out hl).mono ?_; rw [hs]; rintro e w_ ⟨rfl, hb⟩; replace HW := Lib.hid (HW.out.below hb); clear hb
      go_wp2
      go_ret2
      exact ⟨by rw [HN.out]; rfl, HW.out⟩

theorem implRnk_any (v : Int) (A : Option Addr) (c : Nat) (xs : List Blk) (p : Int) (w : World) (hA : Bl w A xs) (hl : xs.length ≤ 1048576) :
    Calls Try.prog 18 #[.agg #[.int .i64 v, .slice A xs.length c], .int .i64 p] w fun e w' => e = .returned (.tuple #[.int .i64 (rnkR v xs p).1, .int .i64 (rnkR v xs p).2]) ∧ Below w.heap.size w w' := by
  cases hs : isSysB v xs
  · have HN : Hid (rnkR v xs p = (0, 1)) := by unfold Hid rnkR; simp [hs]
    generalize rnkR v xs p = R at *
    have HA := Lib.hid hA; clear hA; have HR := Lib.hid (Row.box w 30 (.int .i64 v) (.slice A xs.length c)); have HW := Lib.hid (Since.refl w); go_enter Try.func18, Try.ntmps18; go_wp2_with fail; replace HA := Lib.hid (HA.out.below (below_alloc _ (.cells #[.int .i64 v, .slice A xs.length c] 30))); replace HW := Lib.hid (HW.out.below (below_alloc _ (.cells #[.int .i64 v, .slice A xs.length c] 30)))
    refine (IsSystem_any v A c xs _ HA.out hl).mono ?_; rw [hs]; rintro e w_ ⟨rfl, hb⟩; replace HW := Lib.hid (HW.out.below hb); clear hb
    go_wp2
    go_ret2
    exact ⟨by rw [HN.out]; rfl, HW.out⟩
  · have HS := Lib.hid (isSysB_iff.1 hs)
    have hv := HS.out.1
    obtain ⟨n, rfl⟩ := Int.eq_ofNat_of_zero_le (by omega : 0 ≤ v)
    by_cases hp : 2 ≤ p ∧ p ≤ 3
    · have HP : Hid (p = 2 ∨ p = 3) := by unfold Hid; omega
      have HN : Hid (rnkR n xs p = ((((rkS p xs.length (rowX xs) n).2 : Nat) : Int), 0)) := by unfold Hid rnkR; rw [if_pos hs, if_pos hp]; rfl
      have HX := Lib.hid (rowX_rng xs HP.out)
      have HD := Lib.hid (decide_eq_true hp)
      generalize rnkR n xs p = R at *
      generalize hq : (((rkS p xs.length (rowX xs) n).2 : Nat) : Int) = q at *
      have HQ := Lib.hid hq
      clear hp hq
      have HA := Lib.hid hA; clear hA; have HR := Lib.hid (Row.box w 30 (.int .i64 n) (.slice A xs.length c)); have HW := Lib.hid (Since.refl w); go_enter Try.func18, Try.ntmps18; go_wp2_with fail; replace HA := Lib.hid (HA.out.below (below_alloc _ (.cells #[.int .i64 n, .slice A xs.length c] 30))); replace HW := Lib.hid (HW.out.below (below_alloc _ (.cells #[.int .i64 n, .slice A xs.length c] 30)))
      refine (IsSystem_any n A c xs _ HA.out hl).mono ?_; rw [hs]; rintro e w_ ⟨rfl, hb⟩; replace HA := Lib.hid (HA.out.below hb); replace HW := Lib.hid (HW.out.below hb); replace HR := Lib.hid (HR.out.below hb); clear hb; (try clear c0 c1); obtain ⟨c0, c1⟩ := HR.out.c2
      go_wp2_with fail
      refine (within_any _ _ _ _).mono ?_
      rw [HD.out]
      rintro e w' ⟨rfl, rfl⟩
      have hlr := HR.out.lt
      go_wp2
      have HKEEP := Lib.hid (And.intro c0 c1)
      clear c0 c1
      go_region_held3 (fun w' => w'.cell? ⟨w.heap.size, 0, none⟩ = some (.int .i64 n) ∧ w'.cell? ⟨w.heap.size, 1, none⟩ = some (.slice A xs.length c)) (first | exact HKEEP.out) (first
        | (go_at_call 59
           refine (implRows_any n A c xs _ (HA.out.below (below_drew _)) hl (by omega) (fun i hi => (HS.out.2.2.1 i hi).1)).mono ?_
           rintro e w3 ⟨u, P, rfl, hM, hb⟩
           have HM := Lib.hid hM
           have HSZ := Lib.hid hb.size
           have HLT := Lib.hid HR.out.lt
           replace HW := Lib.hid ((HW.out.below (below_drew _)).below hb)
           replace HR := Lib.hid ((HR.out.below (below_drew _)).below hb)
           replace HKEEP := Lib.hid HR.out.c2
           clear hM hb)
        | (go_at_call 58
           refine (rankU_any w_.drew.heap.size xs.length n p u P (rowX xs) _ HM.out hl (by omega) HP.out HSZ.out (fun i _ k _ => HX.out i k)).mono ?_
           rw [HQ.out]
           rintro e w4 ⟨rfl, hb⟩
           have HW4 : Hid (Below w.heap.size w w4) := Below.trans HW.out (hb.mono (Nat.le_of_lt HLT.out))
           replace HR : Hid (Row w4 w.heap.size 30 #[.int .i64 n, .slice A xs.length c]) := (hb.block _ HLT.out).trans HR.out
           replace HKEEP := Lib.hid HR.out.c2
           clear hb))
      all_goals
        go_wp2
        go_ret2
        exact ⟨by rw [HN.out]; rfl, HW4.out⟩
    · have HN : Hid (rnkR n xs p = (0, 2)) := by unfold Hid rnkR; rw [if_pos hs, if_neg hp]
      have HD := Lib.hid (decide_eq_false hp)
      generalize rnkR n xs p = R at *
      clear hp
      have HA := Lib.hid hA; clear hA; have HR := Lib.hid (Row.box w 30 (.int .i64 n) (.slice A xs.length c)); have HW := Lib.hid (Since.refl w); go_enter Try.func18, Try.ntmps18; go_wp2_with fail; replace HA := Lib.hid (HA.out.below (below_alloc _ (.cells #[.int .i64 n, .slice A xs.length c] 30))); replace HW := Lib.hid (HW.out.below (below_alloc _ (.cells #[.int .i64 n, .slice A xs.length c] 30)))
      refine (IsSystem_any n A c xs _ HA.out hl).mono ?_; rw [hs]; rintro e w_ ⟨rfl, hb⟩; replace HW := Lib.hid (HW.out.below hb); clear hb
      go_wp2_with fail
      refine (within_any _ _ _ _).mono ?_
      rw [HD.out]
      rintro e w' ⟨rfl, rfl⟩
      go_wp2
      go_ret2
      exact ⟨by rw [HN.out]; rfl, HW.out⟩

end Go.Proofs.Ytbknpflbafjblaa
