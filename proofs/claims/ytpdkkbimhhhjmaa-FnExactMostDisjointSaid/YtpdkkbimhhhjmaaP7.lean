/- Plain laws of the pairs that are left, and of the degrees of the leave. Conditions: none. -/
import Derived.Test.YtpdkkbimhhhjmaaP3
import Derived.Test.YtpdkkbimhhhjmaaP6
namespace Go.Proofs.Ytpdkkbimhhhjmaa

/-- the pairs a < b < m that are left -/
def prs (G : Nat → Int) (a : Nat) : Nat → List (List Int)
  | 0 => []
  | m + 1 => prs G a m ++ (if a < m ∧ G (a * 15 + m) = -1 then [[(a : Int), (m : Int)]] else [])
def prA (G : Nat → Int) (v : Nat) : Nat → List (List Int)
  | 0 => []
  | k + 1 => prA G v k ++ prs G k v
theorem prs_nil (G : Nat → Int) (a : Nat) : ∀ m, m ≤ a + 1 → prs G a m = [] := by
  intro m
  induction m with
  | zero => intro _; rfl
  | succ m ih => intro h; rw [prs, ih (by omega), if_neg (by omega)]; rfl
theorem prs_len (G : Nat → Int) (a m : Nat) : (prs G a m).length ≤ m := by
  induction m with
  | zero => simp [prs]
  | succ m ih => simp only [prs]; split <;> simp <;> omega
theorem prA_len (G : Nat → Int) {v : Nat} (hv : v ≤ 15) (k : Nat) : (prA G v k).length ≤ 15 * k := by
  induction k with
  | zero => simp [prA]
  | succ k ih =>
    have := prs_len G k v
    simp only [prA, List.length_append]; omega
theorem prs_mem (G : Nat → Int) (a : Nat) : ∀ m, ∀ p ∈ prs G a m, ∃ b : Nat, p = [(a : Int), (b : Int)] ∧ a < b ∧ b < m := by
  intro m
  induction m with
  | zero => intro p hp; simp [prs] at hp
  | succ m ih =>
    intro p hp
    rw [prs, List.mem_append] at hp
    rcases hp with hp | hp
    · obtain ⟨b, h1, h2, h3⟩ := ih p hp; exact ⟨b, h1, h2, by omega⟩
    · split at hp
      · rename_i h
        simp only [List.mem_singleton] at hp
        exact ⟨m, hp, h.1, by omega⟩
      · simp at hp
theorem prA_mem (G : Nat → Int) (v : Nat) : ∀ k, ∀ p ∈ prA G v k, ∃ a b : Nat, p = [(a : Int), (b : Int)] ∧ a < b ∧ b < v := by
  intro k
  induction k with
  | zero => intro p hp; simp [prA] at hp
  | succ k ih =>
    intro p hp
    rw [prA, List.mem_append] at hp
    rcases hp with hp | hp
    · exact ih p hp
    · obtain ⟨b, h⟩ := prs_mem G k v p hp; exact ⟨k, b, h⟩

/-- how often a number is one of a pair's -/
def twoI (p : List Int) (i : Nat) : Nat := (if nthI p 0 = i then 1 else 0) + (if nthI p 1 = i then 1 else 0)
def cntL (i : Nat) : List (List Int) → Nat
  | [] => 0
  | p :: ps => twoI p i + cntL i ps
theorem cntL_app (i : Nat) (ps qs : List (List Int)) : cntL i (ps ++ qs) = cntL i ps + cntL i qs := by
  induction ps with
  | nil => simp [cntL]
  | cons p ps ih => simp only [List.cons_append, cntL, ih]; omega
theorem cntL_take {xss : List (List Int)} {k : Nat} (h : k < xss.length) (i : Nat) : cntL i (xss.take (k + 1)) = cntL i (xss.take k) + twoI (xss.getD k []) i := by
  rw [List.take_add_one, cntL_app]
  simp [h, cntL]
theorem cntL_le (i : Nat) (ps : List (List Int)) : cntL i ps ≤ 2 * ps.length := by
  induction ps with
  | nil => simp [cntL]
  | cons p ps ih =>
    have : twoI p i ≤ 2 := by unfold twoI; (repeat' split) <;> omega
    simp only [cntL, List.length_cons]; omega

theorem cntL_prs (G : Nat → Int) (a i : Nat) : ∀ m, cntL i (prs G a m) = (if a = i then cntF (fun b => decide (a < b) && (G (a * 15 + b) == -1)) m else 0) + (if a < i ∧ i < m ∧ G (a * 15 + i) = -1 then 1 else 0) := by
  intro m
  induction m with
  | zero => simp [prs, cntL, cntF]
  | succ m ih =>
    rw [prs, cntL_app, ih]
    simp only [cntF, Bool.and_eq_true, decide_eq_true_eq, beq_iff_eq]
    by_cases h : a < m ∧ G (a * 15 + m) = -1
    · rw [if_pos h, if_pos h]
      have e : cntL i [[(a : Int), (m : Int)]] = (if a = i then 1 else 0) + (if m = i then 1 else 0) := by
        simp [cntL, twoI, nthI, Int.natCast_inj]
      rw [e]
      by_cases h1 : a = i
      · subst h1
        rw [if_pos rfl, if_pos rfl, if_pos rfl, if_neg (by omega), if_neg (by omega), if_neg (by omega)]; (try omega)
      · rw [if_neg h1, if_neg h1, if_neg h1]
        by_cases h2 : m = i
        · subst h2; rw [if_pos rfl, if_neg (by omega), if_pos ⟨h.1, by omega, h.2⟩]
        · rw [if_neg h2]
          by_cases h3 : a < i ∧ i < m ∧ G (a * 15 + i) = -1
          · rw [if_pos h3, if_pos ⟨h3.1, by omega, h3.2.2⟩]
          · rw [if_neg h3, if_neg (fun h4 => h3 ⟨h4.1, by omega, h4.2.2⟩)]
    · rw [if_neg h, if_neg h]
      have hP : (a < i ∧ i < m ∧ G (a * 15 + i) = -1) ↔ (a < i ∧ i < m + 1 ∧ G (a * 15 + i) = -1) := by
        constructor
        · rintro ⟨h1, h2, h3⟩; exact ⟨h1, by omega, h3⟩
        · rintro ⟨h1, h2, h3⟩
          by_cases him : i = m
          · subst him; exact absurd ⟨h1, h3⟩ h
          · exact ⟨h1, by omega, h3⟩
      simp only [hP, cntL, Nat.add_zero]
theorem cntL_prA (G : Nat → Int) {v i : Nat} (hi : i < v) : ∀ k, k ≤ v → cntL i (prA G v k) = (if i < k then cntF (fun b => decide (i < b) && (G (i * 15 + b) == -1)) v else 0) + cntF (fun a => decide (a < i) && (G (a * 15 + i) == -1)) k := by
  intro k
  induction k with
  | zero => intro _; simp [prA, cntL, cntF]
  | succ k ih =>
    intro hk
    rw [prA, cntL_app, ih (by omega), cntL_prs]
    simp only [cntF, Bool.and_eq_true, decide_eq_true_eq, beq_iff_eq]
    by_cases h1 : k = i
    · subst h1
      have a1 : ¬ (k < k ∧ k < v ∧ G (k * 15 + k) = -1) := fun h => by omega
      have a2 : k < k + 1 := by omega
      have a3 : ¬ (k < k ∧ G (k * 15 + k) = -1) := fun h => by omega
      rw [if_neg (Nat.lt_irrefl k), if_pos rfl, if_neg a1, if_pos a2, if_neg a3]; (try omega)
    · rw [if_neg h1]
      by_cases h2 : i < k
      · have a1 : ¬ (k < i ∧ i < v ∧ G (k * 15 + i) = -1) := fun h => by omega
        have a2 : i < k + 1 := by omega
        have a3 : ¬ (k < i ∧ G (k * 15 + i) = -1) := fun h => by omega
        rw [if_pos h2, if_pos a2, if_neg a1, if_neg a3]; (try omega)
      · have a2 : ¬ i < k + 1 := by omega
        rw [if_neg h2, if_neg a2]
        by_cases h3 : k < i ∧ G (k * 15 + i) = -1
        · rw [if_pos h3, if_pos ⟨h3.1, hi, h3.2⟩]; (try omega)
        · rw [if_neg h3, if_neg (fun h4 => h3 ⟨h4.1, h4.2.2⟩)]; (try omega)

theorem cntF_congr {f g : Nat → Bool} (n : Nat) (h : ∀ j, j < n → f j = g j) : cntF f n = cntF g n := by
  induction n with
  | zero => rfl
  | succ n ih => simp only [cntF, ih (fun j hj => h j (by omega)), h n (by omega)]
theorem cntF_eq (i n : Nat) (h : i < n) : cntF (fun q => decide (q = i)) n = 1 := by
  have key : ∀ n, cntF (fun q => decide (q = i)) n = if i < n then 1 else 0 := by
    intro n
    induction n with
    | zero => rfl
    | succ n ih =>
      simp only [cntF, ih, decide_eq_true_eq]
      (repeat' split) <;> omega
  rw [key, if_pos h]

/-- the blocks with a point -/
def atP (i : Int) (b : Blk) : Bool := hasB b i
theorem cntF_in {v : Int} {b : Blk} (hg : goodB v b = true) {i : Nat} (hi : (i : Int) < v) : cntF (fun q => inB b i q) v.toNat = if hasB b i = true then 2 else 0 := by
  have hb := good_bd hg
  have h3 := cntF_has hg v.toNat
  rw [if_pos (by omega), if_pos (by omega), if_pos (by omega)] at h3
  by_cases h : hasB b i = true
  · rw [if_pos h]
    have := cntF_or (f := fun q => decide (q = i)) (g := fun q => inB b i q) (h := fun q => hasB b q) v.toNat (fun j _ => by
      by_cases hji : j = i
      · subst hji; simp [h, inB]
      · have : (i : Int) ≠ (j : Int) := by omega
        simp [hji, inB, this, h])
    rw [cntF_eq i _ (by omega)] at this
    omega
  · rw [if_neg h]
    have : ∀ n, cntF (fun q => inB b i q) n = 0 := by
      intro n
      induction n with
      | zero => rfl
      | succ n ih => simp only [cntF, ih]; simp [inB, h]
    exact this _

/-- a pair is in one of the first k blocks -/
def covK (xs : List Blk) (i : Nat) : Nat → Nat → Bool
  | 0, _ => false
  | k + 1, q => covK xs i k q || inB (nth xs k) i q
theorem covK_iff (xs : List Blk) (i : Nat) (q : Nat) : ∀ k, covK xs i k q = true ↔ ∃ j, j < k ∧ inB (nth xs j) i q = true := by
  intro k
  induction k with
  | zero => simp [covK]
  | succ k ih =>
    rw [covK, Bool.or_eq_true, ih]
    constructor
    · rintro (⟨j, h1, h2⟩ | h)
      · exact ⟨j, by omega, h2⟩
      · exact ⟨k, by omega, h⟩
    · rintro ⟨j, h1, h2⟩
      by_cases hjk : j = k
      · subst hjk; exact .inr h2
      · exact .inl ⟨j, by omega, h2⟩
theorem cov_cnt {v : Int} {xs : List Blk} (hs : isSys v xs) {i : Nat} (hi : (i : Int) < v) : ∀ k, k ≤ xs.length → cntF (covK xs i k) v.toNat = 2 * (numsN (atP i) xs k).length := by
  intro k
  induction k with
  | zero =>
    intro _
    have : ∀ n, cntF (covK xs i 0) n = 0 := by intro n; induction n with
      | zero => rfl
      | succ n ih => simp only [cntF, ih]; rfl
    rw [this]; rfl
  | succ k ih =>
    intro hk
    rw [cntF_or (f := covK xs i k) (g := fun q => inB (nth xs k) i q) v.toNat, ih (by omega), cntF_in (hs.2.2.1 k (by omega)).1 hi, numsN, List.length_append]
    · have e : atP i (nth xs k) = hasB (nth xs k) i := rfl
      rw [e]
      cases hasB (nth xs k) i <;> simp <;> (try omega)
    · intro q _
      refine ⟨rfl, ?_⟩
      rw [← Bool.not_eq_true, Bool.and_eq_true, covK_iff]
      rintro ⟨⟨j, h1, h2⟩, h3⟩
      have hne := (inB_iff.1 h2).1
      have := com_two (hs.2.2.1 k (by omega)).1 (hs.2.2.1 j (by omega)).1 hne (by unfold bothB; have := inB_iff.1 h3; simp [this.2.1, this.2.2]) (by unfold bothB; have := inB_iff.1 h2; simp [this.2.1, this.2.2])
      have := hs.2.2.2 k (by omega) j h1
      omega

/-- the degree of a point in the leave -/
theorem leave_deg {v : Nat} {xs : List Blk} (hs : isSys v xs) {i : Nat} (hi : i < v) : (cntL i (prA (gridN xs xs.length) v v) : Int) = (v : Int) - 1 - 2 * ((nums (atP i) xs).length : Int) := by
  have hv := hs.1
  have hg : ∀ j, j < xs.length → goodB 15 (nth xs j) = true := fun j hj => good_mono (hs.2.2.1 j hj).1 hs.1.2
  have hfree : ∀ p q : Nat, q < v → p < v → ((gridN xs xs.length (p * 15 + q) == -1) = !covK xs p xs.length q) := by
    intro p q hq hp
    have h := gridN_free xs (p := p) (q := q) (by omega) (by omega) (by omega) xs.length hg
    simp only [Int.toNat_natCast] at h
    cases hc : covK xs p xs.length q
    · rw [Bool.not_false, beq_iff_eq, h]
      intro j hj
      rw [← Bool.not_eq_true]
      intro h2
      rw [(covK_iff xs p q xs.length).2 ⟨j, hj, h2⟩] at hc; cases hc
    · rw [Bool.not_true, beq_eq_false_iff_ne, ne_eq, h]
      intro h2
      obtain ⟨j, hj, h3⟩ := (covK_iff xs p q xs.length).1 hc
      rw [h2 j hj] at h3; cases h3
  have hsym : ∀ p q : Nat, covK xs p xs.length q = covK xs q xs.length p := by
    intro p q
    rw [Bool.eq_iff_iff, covK_iff, covK_iff]
    constructor <;> rintro ⟨j, h1, h2⟩ <;> obtain ⟨a, b, c⟩ := inB_iff.1 h2 <;> exact ⟨j, h1, inB_iff.2 ⟨Ne.symm a, c, b⟩⟩
  have hself : covK xs i xs.length i = false := by
    rw [← Bool.not_eq_true, covK_iff]; rintro ⟨j, _, h2⟩; exact (inB_iff.1 h2).1 rfl
  rw [cntL_prA _ hi v (Nat.le_refl _), if_pos hi]
  have h1 := cov_cnt hs (i := i) (by omega) xs.length (Nat.le_refl _)
  rw [Int.toNat_natCast] at h1
  have e1 : cntF (fun b => decide (i < b) && (gridN xs xs.length (i * 15 + b) == -1)) v = cntF (fun q => decide (i < q) && !covK xs i xs.length q) v :=
    cntF_congr v fun q hq => by rw [hfree i q hq hi]
  have e2 : cntF (fun a => decide (a < i) && (gridN xs xs.length (a * 15 + i) == -1)) v = cntF (fun q => decide (q < i) && !covK xs i xs.length q) v :=
    cntF_congr v fun q hq => by rw [hfree q i hi hq, hsym]
  have e3 := cntF_or (f := fun q => decide (i < q) && !covK xs i xs.length q) (g := fun q => decide (q < i) && !covK xs i xs.length q) (h := fun q => !decide (q = i) && !covK xs i xs.length q) v (fun q _ => by
    rcases Nat.lt_trichotomy q i with h | h | h
    · have a1 : ¬ i < q := by omega
      have a2 : ¬ q = i := by omega
      simp [h, a1, a2]
    · subst h; simp
    · have a1 : ¬ q < i := by omega
      have a2 : ¬ q = i := by omega
      simp [h, a1, a2])
  have e4 := cntF_or (f := fun q => !decide (q = i) && !covK xs i xs.length q) (g := fun q => decide (q = i)) (h := fun q => !covK xs i xs.length q) v (fun q _ => by
    by_cases h : q = i
    · subst h; simp [hself]
    · simp [h])
  have e5 := cntF_or (f := fun q => !covK xs i xs.length q) (g := covK xs i xs.length) (h := fun _ => true) v (fun q _ => by cases covK xs i xs.length q <;> simp)
  have e6 : cntF (fun _ => true) v = v := (cntF_all v).2 fun _ _ => rfl
  rw [cntF_eq i v hi] at e4
  rw [e1, e2]
  have : (numsN (atP i) xs xs.length).length = (nums (atP i) xs).length := rfl
  omega

end Go.Proofs.Ytpdkkbimhhhjmaa
